/- Contracts of the laws on orders: AddOrder. -/
import Derived.Test.YtnidojjahhhaaaaFa
namespace Go.Proofs.Ytnidojjahhhaaaa
open Go Go.Ab
set_option maxRecDepth 100000

theorem c_law_AddOrder (l : List Order) (x : Order) (hl : l.length ≤ 9223372036854775807) (wl : ∀ x ∈ l, x.wf) (wx : x.wf) : HFn Try.prog 13 [.sl 5 (Order.rows l), .agg x.cells] [] (.bool true) [] := by
  refine hfn_intro hm Try.func13 (by kernel_rfl) rfl (by kernel_rfl) rfl ret0_ok ?_
  simp [Order.cells]
  refine CallZ.use0 (c_szOrderS l 1048576 (by omega) hl wl) rfl rfl ?_
  simp
  intro ql
  have sl := szR_ge ql
  have ll : l.length ≤ 1048576 := by unfold Order.szS at sl; omega
  have el : szR (Order.szS l) 1048576 = ((1048576 - Order.szS l : Nat) : Int) := by rw [szR_pos sl]; omega
  try rw [el]
  refine CallZ.use0 (c_szOrder x (1048576 - Order.szS l) (by omega) wx) rfl rfl ?_
  simp
  intro qx
  have sx := szR_ge qx
  have ex : szR (x.sz) (1048576 - Order.szS l) = (((1048576 - Order.szS l) - x.sz : Nat) : Int) := by rw [szR_pos sx]; omega
  try rw [ex]
  refine CallZ.use (c_toOrderS l ll) rfl (.inr ⟨Order.flat _, trivial⟩) rfl rfl ?_
  simp
  refine CallZ.use0 (c_toOrder x) rfl rfl ?_
  simp
  refine CallZ.use (c_spec_AddOrder l x ll) rfl (.inr ⟨Order.flat _, trivial⟩) rfl rfl ?_
  simp
  refine CallZ.use (c_toOrderS l ll) rfl (.inr ⟨Order.flat _, trivial⟩) rfl rfl ?_
  simp
  refine CallZ.use0 (c_toOrder x) rfl rfl ?_
  simp
  refine CallZ.use (c_impl_AddOrder l x ll) rfl (.inr ⟨Order.flat _, trivial⟩) rfl rfl ?_
  simp
  have hE := addL_le l x
  generalize gE : addL l x = E at *
  refine CallZ.use0 (c_eqOrderS E E (by omega)) rfl rfl ?_
  simp
  refine CallZ.use (c_toOrderS l ll) rfl (.inr ⟨Order.flat _, trivial⟩) rfl rfl ?_
  simp
  refine CallZ.use0 (c_eqOrderS l l (by omega)) rfl rfl ?_
  simp
  refine CallZ.useK 3 (c_markOrderS l (1) (by omega) (by omega)) rfl (by simp) rfl (by simp) rfl rfl ?_
  simp
  have qq1 : ¬ (1 + 5 * (l.length : Int) < 0) := by omega
  simp [qq1]
  first | refine CallY.use (fun _ => ⟨rfl, c_eqOrderS E E (by omega)⟩) rfl rfl ?_ | refine ⟨by intros; simp [*], CallY.use (fun _ => ⟨rfl, c_eqOrderS E E (by omega)⟩) rfl rfl ?_⟩
  simp
  refine CallZ.useK 4 (c_markOrderS E (1) (by omega) (by omega)) rfl (by simp) rfl (by simp) rfl rfl ?_
  simp
  refine CallZ.use0 (c_heldOrderS (Order.marks (1) E.length) (1) (by omega) (by simp [Order.marks_len]; omega) (by simp [Order.marks_len])) rfl rfl ?_
  simp [Order.marks_len]
  have qq2 : ¬ (1 + 5 * (E.length : Int) < 0) := by omega
  have qp2 : 0 ≤ 1 + 5 * (E.length : Int) := by omega
  try simp [qq2, qp2]
  refine CallZ.use (c_toOrderS l ll) rfl (.inr ⟨Order.flat _, trivial⟩) rfl rfl ?_
  simp
  refine CallZ.use0 (c_toOrder x) rfl rfl ?_
  simp
  refine CallZ.use (c_impl_AddOrder l x ll) rfl (.inr ⟨Order.flat _, trivial⟩) rfl rfl ?_
  simp [gE]
  refine CallZ.use0 (c_eqOrderS E E (by omega)) rfl rfl ?_
  simp
  refine CallZ.use0 (c_heldOrderS (Order.marks (1) E.length) (1) (by omega) (by simp [Order.marks_len]; omega) (by simp [Order.marks_len])) rfl rfl ?_
  simp [Order.marks_len]
  have qq3 : ¬ (1 + 5 * (E.length : Int) < 0) := by omega
  have qp3 : 0 ≤ 1 + 5 * (E.length : Int) := by omega
  try simp [qp3]

theorem l_FnExactAddOrder (pargs : List PV) (h : fitsAll [.one (.slc [.str, .int .i64, .int .i64, .int .i64, .int .i64]), .agg [.str, .int .i64, .int .i64, .int .i64, .int .i64]] pargs) : HFn Try.prog 13 pargs [] (.bool true) [] := by
  obtain ⟨p0, r0, rfl, f0, z0⟩ := fitsAll_cons h
  obtain ⟨p1, r1, rfl, ⟨cs1, rfl, f1⟩, z1⟩ := fitsAll_cons z0
  obtain rfl := fitsAll_nil z1
  obtain ⟨rows0, rfl, g0, y0⟩ := fits_slc f0
  obtain ⟨l, rfl, wl⟩ := Order.fitsS y0
  obtain ⟨x, rfl, wx⟩ := Order.fits f1
  exact c_law_AddOrder l x (by simpa [Order.rows] using g0) wl wx
end Go.Proofs.Ytnidojjahhhaaaa

