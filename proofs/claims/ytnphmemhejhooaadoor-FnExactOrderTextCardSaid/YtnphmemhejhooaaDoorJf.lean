/- Contract of the law OrderText. -/
import Derived.Test.YtnphmemhejhooaaDoorJe
namespace Go.Proofs.YtnphmemhejhooaaDoor
open Go Go.Ab
set_option maxRecDepth 100000

theorem c_law_OrderText (x : Order) (wx : x.wf) : HFn Tryd.prog 4 [.agg x.cells] [] (.bool true) [] := by
  refine hfn_intro hm Tryd.func4 (by kernel_rfl) rfl (by kernel_rfl) rfl ret0_ok ?_
  simp [Order.cells]
  refine CallZ.use0 (c_szOrder x 1048576 (by omega) wx) rfl rfl ?_
  simp
  intro qx
  have sx := szR_ge qx
  have ex : szR (x.sz) 1048576 = ((1048576 - x.sz : Nat) : Int) := by rw [szR_pos sx]; omega
  try rw [ex]
  refine CallZ.use0 (c_toOrder x) rfl rfl ?_
  simp
  refine CallZ.use0 (c_spec_OrderText x) rfl rfl ?_
  simp
  refine CallZ.use0 (c_toOrder x) rfl rfl ?_
  simp
  refine CallZ.use0 (c_impl_OrderText x) rfl rfl ?_
  simp

theorem l_FnExactOrderText (pargs : List PV) (h : fitsAll [.agg [.str, .int .i64, .int .i64, .int .i64, .int .i64]] pargs) : HFn Tryd.prog 4 pargs [] (.bool true) [] := by
  obtain ⟨p0, r0, rfl, ⟨cs0, rfl, f0⟩, z0⟩ := fitsAll_cons h
  obtain rfl := fitsAll_nil z0
  obtain ⟨x, rfl, wx⟩ := Order.fits f0
  exact c_law_OrderText x wx
end Go.Proofs.YtnphmemhejhooaaDoor

