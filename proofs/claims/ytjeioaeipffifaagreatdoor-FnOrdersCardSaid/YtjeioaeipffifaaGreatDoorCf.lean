/- Contracts: orders. -/
import Derived.Test.YtjeioaeipffifaaGreatDoorCe
import Derived.Test.YtjeioaeipffifaaGreatDoorTOrder
namespace Go.Proofs.YtjeioaeipffifaaGreatDoor
open Go Go.Ab
set_option maxRecDepth 100000

theorem c_isMass (n : Int) : HFn Tryz.prog 92 [.int .i64 n] [] (.bool (decide (1 ≤ n) && decide (n ≤ 20000000))) [] := by
  refine hfn_intro hm Tryz.func92 (by kernel_rfl) rfl (by kernel_rfl) rfl ret0_ok ?_
  simp
  refine CallZ.use0 (c_within _ _ _) rfl rfl ?_
  simp
theorem c_isNote (n : Int) : HFn Tryz.prog 93 [.int .i64 n] [] (.bool (decide (0 ≤ n) && decide (n ≤ 127))) [] := by
  refine hfn_intro hm Tryz.func93 (by kernel_rfl) rfl (by kernel_rfl) rfl ret0_ok ?_
  simp
  refine CallZ.use0 (c_within _ _ _) rfl rfl ?_
  simp
theorem c_l03Note (n : Int) : HFn Tryz.prog 185 [.int .i64 n] [] (.bool (decide (0 ≤ n) && decide (n ≤ 127))) [] := by
  refine hfn_intro hm Tryz.func185 (by kernel_rfl) rfl (by kernel_rfl) rfl ret0_ok ?_
  simp
  try refine CallZ.use0 (c_l00In _ _ _) rfl rfl ?_
  try simp

def validOrder (x : Order) : Bool := isName x.id && (decide (1 ≤ x.mass) && decide (x.mass ≤ 20000000)) && (decide (0 ≤ x.note) && decide (x.note ≤ 127)) && (decide (1 ≤ x.days) && decide (x.days ≤ 100)) && (decide (0 ≤ x.due) && decide (x.due ≤ 10000))

theorem c_validOrder (x : Order) : HFn Tryz.prog 44 [.agg x.cells] [] (.bool (validOrder x)) [] := by
  refine hfn_intro hm Tryz.func44 (by kernel_rfl) rfl (by kernel_rfl) rfl ret0_ok ?_
  simp [Order.cells]
  refine CallZ.use0 (c_impl_IsName _) rfl rfl ?_
  simp
  refine CallY.use (fun _ => ⟨rfl, c_isMass _⟩) rfl rfl ?_
  simp
  first | refine CallY.use (fun _ => ⟨rfl, c_isNote _⟩) rfl rfl ?_ | refine ⟨by intros; simp [*], CallY.use (fun _ => ⟨rfl, c_isNote _⟩) rfl rfl ?_⟩
  simp
  first | refine CallY.use (fun _ => ⟨rfl, c_within _ _ _⟩) rfl rfl ?_ | refine ⟨by intros; simp [*], CallY.use (fun _ => ⟨rfl, c_within _ _ _⟩) rfl rfl ?_⟩
  simp
  first | refine CallY.use (fun _ => ⟨rfl, c_within _ _ _⟩) rfl rfl ?_ | refine ⟨by intros; simp [*], CallY.use (fun _ => ⟨rfl, c_within _ _ _⟩) rfl rfl ?_⟩
  simp [validOrder]

theorem c_l29One (x : Order) (rows : List (List PV)) (i : Nat) (h : rows[i]? = some x.cells) : HFn Tryz.prog 141 [.pe 5 rows i 0] [] (.bool (validOrder x)) [] := by
  have hi : i < rows.length := (List.getElem?_eq_some_iff.1 h).1
  have hx : rows[i] = x.cells := by rw [List.getElem?_eq_getElem hi] at h; exact Option.some.inj h
  refine hfn_intro hm Tryz.func141 (by kernel_rfl) rfl (by kernel_rfl) rfl ret0_ok ?_
  rw [Order.cells] at h hx
  simp [hi, hx]
  refine CallZ.use0 (c_spec_l01Name _) rfl rfl ?_
  simp [hi, hx]
  first | refine CallY.use (fun _ => ⟨rfl, c_l00In _ _ _⟩) rfl rfl ?_ | refine ⟨by intros; simp [*], CallY.use (fun _ => ⟨rfl, c_l00In _ _ _⟩) rfl rfl ?_⟩
  simp [hi, hx]
  first | refine CallY.use (fun _ => ⟨rfl, c_l03Note _⟩) rfl rfl ?_ | refine ⟨by intros; simp [*], CallY.use (fun _ => ⟨rfl, c_l03Note _⟩) rfl rfl ?_⟩
  simp [hi, hx]
  first | refine CallY.use (fun _ => ⟨rfl, c_l00In _ _ _⟩) rfl rfl ?_ | refine ⟨by intros; simp [*], CallY.use (fun _ => ⟨rfl, c_l00In _ _ _⟩) rfl rfl ?_⟩
  simp [hi, hx]
  first | refine CallY.use (fun _ => ⟨rfl, c_l00In _ _ _⟩) rfl rfl ?_ | refine ⟨by intros; simp [*], CallY.use (fun _ => ⟨rfl, c_l00In _ _ _⟩) rfl rfl ?_⟩
  simp [validOrder]

/-- The price of an order. -/
def priceOf (x : Order) : Int := 500 + (x.mass * 18 + 999) / 1000 + x.days * 240

theorem c_ceilDiv (a b : Int) (ha : 0 ≤ a) (ha' : a ≤ 1000000000000000000) (hb : 0 < b) (hb' : b ≤ 1000000000000000000) : HFn Tryz.prog 102 [.int .i64 a, .int .i64 b] [] (.int .i64 ((a + b - 1) / b)) [] := by
  refine hfn_intro hm Tryz.func102 (by kernel_rfl) rfl (by kernel_rfl) rfl ret0_ok ?_
  simp
  have hd : (a + b - 1) / b ≤ a + b - 1 := Int.ediv_le_self _ (by omega)
  have hd' : 0 ≤ (a + b - 1) / b := Int.ediv_nonneg (by omega) (by omega)
  rw [w64 (n := a + b) (by omega) (by omega), w64 (n := a + b - 1) (by omega) (by omega), Int.tdiv_eq_ediv_of_nonneg (by omega), w64 (by omega) (by omega)]
  omega

theorem c_price (x : Order) (hv : validOrder x = true) : HFn Tryz.prog 52 [.agg x.cells] [] (.int .i64 (priceOf x)) [] := by
  refine hfn_intro hm Tryz.func52 (by kernel_rfl) rfl (by kernel_rfl) rfl ret0_ok ?_
  simp [validOrder] at hv
  simp [Order.cells, priceOf]
  rw [w64 (n := x.mass * 18) (by omega) (by omega)]
  refine CallZ.use0 (c_ceilDiv _ _ (by omega) (by omega) (by omega) (by omega)) rfl rfl ?_
  simp
  rw [w64 (n := x.days * 240) (by omega) (by omega), w64 (n := 500 + (x.mass * 18 + 1000 - 1) / 1000) (by omega) (by omega), w64 (by omega) (by omega)]
  omega

def priceR (x : Order) : PV := .tup [.int .i64 (if validOrder x = true then priceOf x else 0), .int .i64 (if validOrder x = true then 0 else 1)]

theorem c_impl_PriceOf (x : Order) : HFn Tryz.prog 14 [.agg x.cells] [] (priceR x) [] := by
  refine hfn_intro hm Tryz.func14 (by kernel_rfl) rfl (by kernel_rfl) rfl ret0_ok ?_
  simp [Order.cells]
  refine CallZ.use0 (c_validOrder x) rfl rfl ?_
  simp
  refine ⟨fun h => ?_, fun h => ?_⟩
  · simp [priceR, h]
  · refine CallZ.use0 (c_price x h) rfl rfl ?_
    simp [priceR, h]

end Go.Proofs.YtjeioaeipffifaaGreatDoor
