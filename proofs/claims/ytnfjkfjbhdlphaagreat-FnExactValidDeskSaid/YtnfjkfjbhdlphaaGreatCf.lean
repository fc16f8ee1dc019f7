/- Contracts: orders. -/
import Derived.Test.YtnfjkfjbhdlphaaGreatCe
import Derived.Test.YtnfjkfjbhdlphaaGreatTOrder
namespace Go.Proofs.YtnfjkfjbhdlphaaGreat
open Go Go.Ab
set_option maxRecDepth 100000

theorem c_isMass (n : Int) : HFn Tryz.prog 191 [.int .i64 n] [] (.bool (decide (1 ≤ n) && decide (n ≤ 20000000))) [] := by
  refine hfn_intro hm Tryz.func191 (by kernel_rfl) rfl (by kernel_rfl) rfl ret0_ok ?_
  simp
  refine CallZ.use0 (c_within _ _ _) rfl rfl ?_
  simp
theorem c_isNote (n : Int) : HFn Tryz.prog 199 [.int .i64 n] [] (.bool (decide (0 ≤ n) && decide (n ≤ 127))) [] := by
  refine hfn_intro hm Tryz.func199 (by kernel_rfl) rfl (by kernel_rfl) rfl ret0_ok ?_
  simp
  refine CallZ.use0 (c_within _ _ _) rfl rfl ?_
  simp
theorem c_l03Note (n : Int) : HFn Tryz.prog 220 [.int .i64 n] [] (.bool (decide (0 ≤ n) && decide (n ≤ 127))) [] := by
  refine hfn_intro hm Tryz.func220 (by kernel_rfl) rfl (by kernel_rfl) rfl ret0_ok ?_
  simp
  try refine CallZ.use0 (c_l00In _ _ _) rfl rfl ?_
  try simp

def validOrder (x : Order) : Bool := isName x.id && (decide (1 ≤ x.mass) && decide (x.mass ≤ 20000000)) && (decide (0 ≤ x.note) && decide (x.note ≤ 127)) && (decide (1 ≤ x.days) && decide (x.days ≤ 100)) && (decide (0 ≤ x.due) && decide (x.due ≤ 10000))

theorem c_validOrder (x : Order) : HFn Tryz.prog 156 [.agg x.cells] [] (.bool (validOrder x)) [] := by
  refine hfn_intro hm Tryz.func156 (by kernel_rfl) rfl (by kernel_rfl) rfl ret0_ok ?_
  simp [Order.cells]
  refine CallZ.use0 (c_impl_IsName _) rfl rfl ?_
  simp
  refine CallY.use (fun _ => ⟨rfl, c_isMass _⟩) rfl rfl ?_
  simp
  first | refine CallY.use (fun _ => ⟨rfl, c_isNote _⟩) rfl rfl ?_ | refine ⟨by intros; simp [*], CallY.use (fun _ => ⟨rfl, c_isNote _⟩) rfl rfl ?_⟩
  simp
  first | refine CallY.use (fun _ => ⟨rfl, c_within _ _ _⟩) rfl rfl ?_ | refine ⟨by intros; simp [*], CallY.use (fun _ => ⟨rfl, c_within _ _ _⟩) rfl rfl ?_⟩
  simp
  first | refine CallY.use (fun _ => ⟨rfl, c_within _ _ _⟩) rfl rfl ?_ | refine ⟨by intros; simp [*], CallY.use (fun _ => ⟨rfl, c_within _ _ _⟩) rfl rfl ?_⟩
  simp [validOrder]

theorem c_l29One (x : Order) (rows : List (List PV)) (i : Nat) (h : rows[i]? = some x.cells) : HFn Tryz.prog 232 [.pe 5 rows i 0] [] (.bool (validOrder x)) [] := by
  have hi : i < rows.length := (List.getElem?_eq_some_iff.1 h).1
  have hx : rows[i] = x.cells := by rw [List.getElem?_eq_getElem hi] at h; exact Option.some.inj h
  refine hfn_intro hm Tryz.func232 (by kernel_rfl) rfl (by kernel_rfl) rfl ret0_ok ?_
  rw [Order.cells] at h hx
  simp [hi, hx]
  refine CallZ.use0 (c_spec_l01Name _) rfl rfl ?_
  simp [hi, hx]
  first | refine CallY.use (fun _ => ⟨rfl, c_l00In _ _ _⟩) rfl rfl ?_ | refine ⟨by intros; simp [*], CallY.use (fun _ => ⟨rfl, c_l00In _ _ _⟩) rfl rfl ?_⟩
  simp [hi, hx]
  first | refine CallY.use (fun _ => ⟨rfl, c_l03Note _⟩) rfl rfl ?_ | refine ⟨by intros; simp [*], CallY.use (fun _ => ⟨rfl, c_l03Note _⟩) rfl rfl ?_⟩
  simp [hi, hx]
  first | refine CallY.use (fun _ => ⟨rfl, c_l00In _ _ _⟩) rfl rfl ?_ | refine ⟨by intros; simp [*], CallY.use (fun _ => ⟨rfl, c_l00In _ _ _⟩) rfl rfl ?_⟩
  simp [hi, hx]
  first | refine CallY.use (fun _ => ⟨rfl, c_l00In _ _ _⟩) rfl rfl ?_ | refine ⟨by intros; simp [*], CallY.use (fun _ => ⟨rfl, c_l00In _ _ _⟩) rfl rfl ?_⟩
  simp [validOrder]

/-- The price of an order. -/
def priceOf (x : Order) : Int := 500 + (x.mass * 18 + 999) / 1000 + x.days * 240

def priceR (x : Order) : PV := .tup [.int .i64 (if validOrder x = true then priceOf x else 0), .int .i64 (if validOrder x = true then 0 else 1)]

end Go.Proofs.YtnfjkfjbhdlphaaGreat
