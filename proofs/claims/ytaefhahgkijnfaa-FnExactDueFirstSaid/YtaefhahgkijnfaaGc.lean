/- Contracts of the laws on orders: DueFirst, LatestBegin. -/
import Derived.Test.YtaefhahgkijnfaaGb
namespace Go.Proofs.Ytaefhahgkijnfaa
open Go Go.Ab
set_option maxRecDepth 100000

theorem c_law_DueFirst (l : List Order) (hl : l.length ≤ 9223372036854775807) (wl : ∀ x ∈ l, x.wf) : HFn Try.prog 3 [.sl 5 (Order.rows l)] [] (.bool true) [] := by
  refine hfn_intro hm Try.func3 (by kernel_rfl) rfl (by kernel_rfl) rfl ret0_ok ?_
  simp
  refine CallZ.use0 (c_szOrderS l 1048576 (by omega) hl wl) rfl rfl ?_
  simp
  intro ql
  have sl := szR_ge ql
  have ll : l.length ≤ 1048576 := by unfold Order.szS at sl; omega
  have el : szR (Order.szS l) 1048576 = ((1048576 - Order.szS l : Nat) : Int) := by rw [szR_pos sl]; omega
  try rw [el]
  refine CallZ.use (c_toOrderS l ll) rfl (.inr ⟨Order.flat _, trivial⟩) rfl rfl ?_
  simp
  refine CallZ.use (c_spec_DueFirst l ll) rfl (.inr ⟨flat_intRows _, trivial⟩) rfl rfl ?_
  simp
  refine CallZ.use (c_toOrderS l ll) rfl (.inr ⟨Order.flat _, trivial⟩) rfl rfl ?_
  simp
  refine CallZ.use (c_impl_DueFirst l ll) rfl (.inr ⟨flat_intRows _, trivial⟩) rfl rfl ?_
  simp
  have hE := dueR_le l
  generalize gE : dueR l = E at *
  refine CallZ.use0 (c_eqInt64S E E (by omega)) rfl rfl ?_
  simp
  refine CallZ.use (c_toOrderS l ll) rfl (.inr ⟨Order.flat _, trivial⟩) rfl rfl ?_
  simp
  refine CallZ.use0 (c_eqOrderS l l (by omega)) rfl rfl ?_
  simp
  refine CallZ.useK 2 (c_markOrderS l (1) (by omega) (by omega)) rfl (by simp) rfl (by simp) rfl rfl ?_
  simp
  have qq1 : ¬ (1 + 5 * (l.length : Int) < 0) := by omega
  simp [qq1]
  first | refine CallY.use (fun _ => ⟨rfl, c_eqInt64S E E (by omega)⟩) rfl rfl ?_ | refine ⟨by intros; simp [*], CallY.use (fun _ => ⟨rfl, c_eqInt64S E E (by omega)⟩) rfl rfl ?_⟩
  simp
  refine CallZ.useK 3 (c_markInt64S E (1) (by omega) (by omega)) rfl (by simp) rfl (by simp) rfl rfl ?_
  simp
  refine CallZ.use0 (c_heldInt64S (marksI (1) E.length) (1) (by omega) (by simp [marksI_len]; omega) (by simp [marksI_len])) rfl rfl ?_
  simp [marksI_len]
  have qq2 : ¬ (1 + (E.length : Int) < 0) := by omega
  have qp2 : 0 ≤ 1 + (E.length : Int) := by omega
  try simp [qq2, qp2]
  refine CallZ.use (c_toOrderS l ll) rfl (.inr ⟨Order.flat _, trivial⟩) rfl rfl ?_
  simp
  refine CallZ.use (c_impl_DueFirst l ll) rfl (.inr ⟨flat_intRows _, trivial⟩) rfl rfl ?_
  simp [gE]
  refine CallZ.use0 (c_eqInt64S E E (by omega)) rfl rfl ?_
  simp
  refine CallZ.use0 (c_heldInt64S (marksI (1) E.length) (1) (by omega) (by simp [marksI_len]; omega) (by simp [marksI_len])) rfl rfl ?_
  simp [marksI_len]
  have qq3 : ¬ (1 + (E.length : Int) < 0) := by omega
  have qp3 : 0 ≤ 1 + (E.length : Int) := by omega
  try simp [qp3]

theorem l_FnExactDueFirst (pargs : List PV) (h : fitsAll [.one (.slc [.str, .int .i64, .int .i64, .int .i64, .int .i64])] pargs) : HFn Try.prog 3 pargs [] (.bool true) [] := by
  obtain ⟨p0, r0, rfl, f0, z0⟩ := fitsAll_cons h
  obtain rfl := fitsAll_nil z0
  obtain ⟨rows0, rfl, g0, y0⟩ := fits_slc f0
  obtain ⟨l, rfl, wl⟩ := Order.fitsS y0
  exact c_law_DueFirst l (by simpa [Order.rows] using g0) wl

end Go.Proofs.Ytaefhahgkijnfaa

