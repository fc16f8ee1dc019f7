/- Contracts: lists of orders. -/
import Derived.Test.YtnfjkfjbhdlphaaGreatCf
namespace Go.Proofs.YtnfjkfjbhdlphaaGreat
open Go Go.Ab
set_option maxRecDepth 100000

/-- Order i of a list is valid, and stands behind the one before it. -/
def orderAt (l : List Order) (i : Nat) : Bool := match l[i]? with
  | some x => validOrder x && (decide (i = 0) || match l[i - 1]? with
    | some y => Op.bytesLess y.id x.id
    | none => true)
  | none => true
def validOrders (l : List Order) : Bool := (List.range l.length).all (orderAt l) && decide ((l.length : Int) ≤ 12)

theorem c_impl_ValidOrders (l : List Order) (hl : l.length ≤ 1048576) : HFn Tryz.prog 82 [.sl 5 (Order.rows l)] [] (.bool (validOrders l)) [] := by
  refine hfn_intro hm Tryz.func82 (by kernel_rfl) rfl (by kernel_rfl) rfl ret0_ok ?_
  simp [Order.rows]
  refine loop_upto hm l.length (fun i => ⟨[(0, .sl 5 (Order.rows l)), (5, .sl 5 (Order.rows l)), (6, .int .i64 l.length), (7, .int .i64 i)], []⟩) (fun i => ∀ j, j < i → orderAt l j = true) (by kernel_rfl) ?_ (by simp) (fun i hi hI => ?_) (fun hI => ?_)
  · exact Wk.weak (ρ := []) (φ := []) (by simp [Order.rows])
  · have e1 : IntKind.i64.wrap ((i : Int) - 1) = i - 1 := w64 (by omega) (by omega)
    obtain ⟨y, hy⟩ : ∃ y, l[i - 1]? = some y := ⟨_, List.getElem?_eq_getElem (by omega)⟩
    have hx := List.getElem?_eq_getElem hi
    simp [Order.rows, Order.cells, hi]
    refine CallZ.use0 (c_validOrder l[i]) rfl rfl ?_
    simp [Order.cells, hy, e1]
    have ho : orderAt l i = (validOrder l[i] && (decide (i = 0) || Op.bytesLess y.id l[i].id)) := by simp [orderAt, hx, hy]
    have hs := bytesLess_swap y.id l[i].id
    iterate 6 refine ⟨by grind, ?_⟩
    refine ⟨fun h => ?_, fun h1 h2 => ⟨upto_succ hI ?_, ?_⟩⟩
    · have : orderAt l i = false := by
        rw [ho]
        rcases h with h | ⟨h, h'⟩
        · simp [h]
        · have h3 : (Op.bytesLess l[i].id y.id || decide (l[i].id = y.id)) = true := by simpa using h'
          rw [hs] at h3
          have h4 : ¬ i = 0 := by omega
          simp at h3
          simp [h3, h4]
      simp only [validOrders, all_range_false hi this, Bool.false_and]
    · rw [ho]
      rw [h1, Bool.true_and]
      by_cases h4 : i = 0
      · simp [h4]
      · obtain ⟨h5, h6⟩ := h2 (by omega)
        simp [h5, h6] at hs
        simp [hs]
    · refine Wk.weak (ρ := []) (φ := []) ?_
      simp
      exact w64 (by omega) (by omega)
  · simp [Order.rows]
    simp only [validOrders, all_range_true hI, Bool.true_and]

theorem c_l29Ok (l : List Order) (hl : l.length ≤ 1048576) : HFn Tryz.prog 208 [.sl 5 (Order.rows l)] [] (.bool (validOrders l)) [] := by
  refine hfn_intro hm Tryz.func208 (by kernel_rfl) rfl (by kernel_rfl) rfl ret0_ok ?_
  simp [Order.rows]
  refine loop_upto hm l.length (fun i => ⟨[(0, .sl 5 (Order.rows l)), (3, .int .i64 i)], []⟩) (fun i => ∀ j, j < i → orderAt l j = true) (by kernel_rfl) ?_ (by simp) (fun i hi hI => ?_) (fun hI => ?_)
  · exact Wk.weak (ρ := []) (φ := []) (by simp [Order.rows])
  · have e1 : IntKind.i64.wrap ((i : Int) - 1) = i - 1 := w64 (by omega) (by omega)
    obtain ⟨y, hy⟩ : ∃ y, l[i - 1]? = some y := ⟨_, List.getElem?_eq_getElem (by omega)⟩
    have hx := List.getElem?_eq_getElem hi
    simp [Order.rows, hi]
    refine CallZ.use0 (c_l29One l[i] _ _ (by simp [hi])) rfl rfl ?_
    simp [Order.cells, hi, hy, e1]
    have ho : orderAt l i = (validOrder l[i] && (decide (i = 0) || Op.bytesLess y.id l[i].id)) := by simp [orderAt, hx, hy]
    iterate 6 refine ⟨by grind, ?_⟩
    refine ⟨fun h => ?_, fun h1 h2 => ⟨upto_succ hI ?_, ?_⟩⟩
    · have : orderAt l i = false := by
        rw [ho]
        rcases h with h | ⟨h, h'⟩
        · simp [h]
        · have h4 : ¬ i = 0 := by omega
          simp [h', h4]
      simp only [validOrders, all_range_false hi this, Bool.false_and]
    · rw [ho, h1, Bool.true_and]
      by_cases h4 : i = 0
      · simp [h4]
      · simp [h2 (by omega)]
    · refine Wk.weak (ρ := []) (φ := []) ?_
      simp
      exact w64 (by omega) (by omega)
  · simp [Order.rows]
    simp only [validOrders, all_range_true hI, Bool.true_and]

theorem c_spec_ValidOrders (l : List Order) (hl : l.length ≤ 1048576) : HFn Tryz.prog 154 [.sl 5 (Order.rows l)] [] (.bool (validOrders l)) [] := by
  refine hfn_intro hm Tryz.func154 (by kernel_rfl) rfl (by kernel_rfl) rfl ret0_ok ?_
  simp
  refine CallZ.use0 (c_l29Ok l hl) rfl rfl ?_
  simp

end Go.Proofs.YtnfjkfjbhdlphaaGreat
