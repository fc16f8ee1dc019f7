/- Contracts of the laws on orders: DueFirst, LatestBegin. -/
import Derived.Test.YtnidojjahhhaaaaGb
namespace Go.Proofs.Ytnidojjahhhaaaa
open Go Go.Ab
set_option maxRecDepth 100000

theorem c_law_LatestBegin (l : List Order) (hl : l.length ≤ 9223372036854775807) (wl : ∀ x ∈ l, x.wf) : HFn Try.prog 14 [.sl 5 (Order.rows l)] [] (.bool true) [] := by
  refine hfn_intro hm Try.func14 (by kernel_rfl) rfl (by kernel_rfl) rfl ret0_ok ?_
  simp
  refine CallZ.use0 (c_szOrderS l 1048576 (by omega) hl wl) rfl rfl ?_
  simp
  intro ql
  have sl := szR_ge ql
  have ll : l.length ≤ 1048576 := by unfold Order.szS at sl; omega
  have el : szR (Order.szS l) 1048576 = ((1048576 - Order.szS l : Nat) : Int) := by rw [szR_pos sl]; omega
  try rw [el]
  refine CallZ.use (c_toOrderS l ll) rfl (.inr ⟨Order.flat _, trivial⟩) rfl rfl ?_
  simp
  refine CallZ.use0 (c_spec_LatestBegin l ll) rfl rfl ?_
  simp
  refine CallZ.use (c_toOrderS l ll) rfl (.inr ⟨Order.flat _, trivial⟩) rfl rfl ?_
  simp
  refine CallZ.use0 (c_impl_LatestBegin l ll) rfl rfl ?_
  simp
  refine CallZ.use (c_toOrderS l ll) rfl (.inr ⟨Order.flat _, trivial⟩) rfl rfl ?_
  simp
  refine CallZ.use0 (c_eqOrderS l l (by omega)) rfl rfl ?_
  simp

theorem l_FnExactLatestBegin (pargs : List PV) (h : fitsAll [.one (.slc [.str, .int .i64, .int .i64, .int .i64, .int .i64])] pargs) : HFn Try.prog 14 pargs [] (.bool true) [] := by
  obtain ⟨p0, r0, rfl, f0, z0⟩ := fitsAll_cons h
  obtain rfl := fitsAll_nil z0
  obtain ⟨rows0, rfl, g0, y0⟩ := fits_slc f0
  obtain ⟨l, rfl, wl⟩ := Order.fitsS y0
  exact c_law_LatestBegin l (by simpa [Order.rows] using g0) wl
end Go.Proofs.Ytnidojjahhhaaaa

