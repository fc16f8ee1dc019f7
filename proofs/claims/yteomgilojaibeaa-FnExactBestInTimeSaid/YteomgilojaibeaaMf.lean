/- Contracts of the laws MostInTime and BestInTime. -/
import Derived.Test.YteomgilojaibeaaMe
namespace Go.Proofs.Yteomgilojaibeaa
open Go Go.Ab
set_option maxRecDepth 100000

theorem c_law_MostInTime (l : List Order) (s : Int) (hl : l.length ≤ 9223372036854775807) (wl : ∀ x ∈ l, x.wf) (_ws : I64 s) : HFn Try.prog 6 [.sl 5 (Order.rows l), .int .i64 s] [] (.bool true) [] := by
  refine hfn_intro hm Try.func6 (by kernel_rfl) rfl (by kernel_rfl) rfl ret0_ok ?_
  simp
  refine CallZ.use0 (c_szOrderS l 1048576 (by omega) hl wl) rfl rfl ?_
  simp
  intro ql
  have sl := szR_ge ql
  have ll : l.length ≤ 1048576 := by unfold Order.szS at sl; omega
  have el : szR (Order.szS l) 1048576 = ((1048576 - Order.szS l : Nat) : Int) := by rw [szR_pos sl]; omega
  try rw [el]
  refine CallZ.use (c_toOrderS l ll) rfl (.inr ⟨Order.flat _, trivial⟩) rfl rfl ?_
  simp
  refine CallZ.use (c_spec_MostInTime l s (by omega)) rfl (.inr ⟨flat_intRows _, trivial⟩) rfl rfl ?_
  simp
  refine CallZ.use (c_toOrderS l ll) rfl (.inr ⟨Order.flat _, trivial⟩) rfl rfl ?_
  simp
  refine CallZ.use (c_impl_MostInTime l s (by omega)) rfl (.inr ⟨flat_intRows _, trivial⟩) rfl rfl ?_
  simp
  have hE := mostR_le l s
  generalize gE : mostR l s = E at *
  refine CallZ.use0 (c_eqInt64S E E (by omega)) rfl rfl ?_
  simp
  refine CallZ.use (c_toOrderS l ll) rfl (.inr ⟨Order.flat _, trivial⟩) rfl rfl ?_
  simp
  refine CallZ.use0 (c_eqOrderS l l (by omega)) rfl rfl ?_
  simp
  refine CallZ.useK 2 (c_markOrderS l (1) (by omega) (by omega)) rfl (by simp) rfl (by simp) rfl rfl ?_
  simp
  have qq1 : ¬ (1 + 5 * (l.length : Int) < 0) := by omega
  simp [qq1]
  first | refine CallY.use (fun _ => ⟨rfl, c_eqInt64S E E (by omega)⟩) rfl rfl ?_ | refine ⟨by intros; simp [*], CallY.use (fun _ => ⟨rfl, c_eqInt64S E E (by omega)⟩) rfl rfl ?_⟩
  simp
  refine CallZ.useK 3 (c_markInt64S E (1) (by omega) (by omega)) rfl (by simp) rfl (by simp) rfl rfl ?_
  simp
  refine CallZ.use0 (c_heldInt64S (marksI (1) E.length) (1) (by omega) (by simp [marksI_len]; omega) (by simp [marksI_len])) rfl rfl ?_
  simp [marksI_len]
  have qq2 : ¬ (1 + (E.length : Int) < 0) := by omega
  have qp2 : 0 ≤ 1 + (E.length : Int) := by omega
  try simp [qq2, qp2]
  refine CallZ.use (c_toOrderS l ll) rfl (.inr ⟨Order.flat _, trivial⟩) rfl rfl ?_
  simp
  refine CallZ.use (c_impl_MostInTime l s (by omega)) rfl (.inr ⟨flat_intRows _, trivial⟩) rfl rfl ?_
  simp [gE]
  refine CallZ.use0 (c_eqInt64S E E (by omega)) rfl rfl ?_
  simp
  refine CallZ.use0 (c_heldInt64S (marksI (1) E.length) (1) (by omega) (by simp [marksI_len]; omega) (by simp [marksI_len])) rfl rfl ?_
  simp [marksI_len]
  have qq3 : ¬ (1 + (E.length : Int) < 0) := by omega
  have qp3 : 0 ≤ 1 + (E.length : Int) := by omega
  try simp [qp3]

theorem l_FnExactMostInTime (pargs : List PV) (h : fitsAll [.one (.slc [.str, .int .i64, .int .i64, .int .i64, .int .i64]), .one (.int .i64)] pargs) : HFn Try.prog 6 pargs [] (.bool true) [] := by
  obtain ⟨p0, r0, rfl, f0, z0⟩ := fitsAll_cons h
  obtain ⟨p1, r1, rfl, f1, z1⟩ := fitsAll_cons z0
  obtain rfl := fitsAll_nil z1
  obtain ⟨rows0, rfl, g0, y0⟩ := fits_slc f0
  obtain ⟨l, rfl, wl⟩ := Order.fitsS y0
  obtain ⟨s, rfl, ws⟩ := fits_int f1
  exact c_law_MostInTime l s (by simpa [Order.rows] using g0) wl (lit64 ws)

theorem c_law_BestInTime (l : List Order) (s : Int) (hl : l.length ≤ 9223372036854775807) (wl : ∀ x ∈ l, x.wf) (_ws : I64 s) : HFn Try.prog 7 [.sl 5 (Order.rows l), .int .i64 s] [] (.bool true) [] := by
  refine hfn_intro hm Try.func7 (by kernel_rfl) rfl (by kernel_rfl) rfl ret0_ok ?_
  simp
  refine CallZ.use0 (c_szOrderS l 1048576 (by omega) hl wl) rfl rfl ?_
  simp
  intro ql
  have sl := szR_ge ql
  have ll : l.length ≤ 1048576 := by unfold Order.szS at sl; omega
  have el : szR (Order.szS l) 1048576 = ((1048576 - Order.szS l : Nat) : Int) := by rw [szR_pos sl]; omega
  try rw [el]
  refine CallZ.use (c_toOrderS l ll) rfl (.inr ⟨Order.flat _, trivial⟩) rfl rfl ?_
  simp
  refine CallZ.use (c_spec_BestInTime l s (by omega)) rfl (.inr ⟨flat_intRows _, trivial⟩) rfl rfl ?_
  simp
  refine CallZ.use (c_toOrderS l ll) rfl (.inr ⟨Order.flat _, trivial⟩) rfl rfl ?_
  simp
  refine CallZ.use (c_impl_BestInTime l s (by omega)) rfl (.inr ⟨flat_intRows _, trivial⟩) rfl rfl ?_
  simp
  have hE := dearR_le l s
  generalize gE : dearR l s = E at *
  refine CallZ.use0 (c_eqInt64S E E (by omega)) rfl rfl ?_
  simp
  refine CallZ.use (c_toOrderS l ll) rfl (.inr ⟨Order.flat _, trivial⟩) rfl rfl ?_
  simp
  refine CallZ.use0 (c_eqOrderS l l (by omega)) rfl rfl ?_
  simp
  refine CallZ.useK 2 (c_markOrderS l (1) (by omega) (by omega)) rfl (by simp) rfl (by simp) rfl rfl ?_
  simp
  have qq1 : ¬ (1 + 5 * (l.length : Int) < 0) := by omega
  simp [qq1]
  first | refine CallY.use (fun _ => ⟨rfl, c_eqInt64S E E (by omega)⟩) rfl rfl ?_ | refine ⟨by intros; simp [*], CallY.use (fun _ => ⟨rfl, c_eqInt64S E E (by omega)⟩) rfl rfl ?_⟩
  simp
  refine CallZ.useK 3 (c_markInt64S E (1) (by omega) (by omega)) rfl (by simp) rfl (by simp) rfl rfl ?_
  simp
  refine CallZ.use0 (c_heldInt64S (marksI (1) E.length) (1) (by omega) (by simp [marksI_len]; omega) (by simp [marksI_len])) rfl rfl ?_
  simp [marksI_len]
  have qq2 : ¬ (1 + (E.length : Int) < 0) := by omega
  have qp2 : 0 ≤ 1 + (E.length : Int) := by omega
  try simp [qq2, qp2]
  refine CallZ.use (c_toOrderS l ll) rfl (.inr ⟨Order.flat _, trivial⟩) rfl rfl ?_
  simp
  refine CallZ.use (c_impl_BestInTime l s (by omega)) rfl (.inr ⟨flat_intRows _, trivial⟩) rfl rfl ?_
  simp [gE]
  refine CallZ.use0 (c_eqInt64S E E (by omega)) rfl rfl ?_
  simp
  refine CallZ.use0 (c_heldInt64S (marksI (1) E.length) (1) (by omega) (by simp [marksI_len]; omega) (by simp [marksI_len])) rfl rfl ?_
  simp [marksI_len]
  have qq3 : ¬ (1 + (E.length : Int) < 0) := by omega
  have qp3 : 0 ≤ 1 + (E.length : Int) := by omega
  try simp [qp3]

theorem l_FnExactBestInTime (pargs : List PV) (h : fitsAll [.one (.slc [.str, .int .i64, .int .i64, .int .i64, .int .i64]), .one (.int .i64)] pargs) : HFn Try.prog 7 pargs [] (.bool true) [] := by
  obtain ⟨p0, r0, rfl, f0, z0⟩ := fitsAll_cons h
  obtain ⟨p1, r1, rfl, f1, z1⟩ := fitsAll_cons z0
  obtain rfl := fitsAll_nil z1
  obtain ⟨rows0, rfl, g0, y0⟩ := fits_slc f0
  obtain ⟨l, rfl, wl⟩ := Order.fitsS y0
  obtain ⟨s, rfl, ws⟩ := fits_int f1
  exact c_law_BestInTime l s (by simpa [Order.rows] using g0) wl (lit64 ws)
end Go.Proofs.Yteomgilojaibeaa

