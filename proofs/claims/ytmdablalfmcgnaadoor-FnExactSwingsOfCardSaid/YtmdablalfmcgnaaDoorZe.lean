/- Contract of the law SwingsOf. -/
import Derived.Test.YtmdablalfmcgnaaDoorZd
namespace Go.Proofs.YtmdablalfmcgnaaDoor
open Go Go.Ab
set_option maxRecDepth 100000

theorem c_law_SwingsOf (l : List Hung) (hl : l.length ≤ 9223372036854775807) (wl : ∀ x ∈ l, x.wf) : HFn Tryd.prog 3 [.sl 5 (Hung.rows l)] [] (.bool true) [] := by
  refine hfn_intro hm Tryd.func3 (by kernel_rfl) rfl (by kernel_rfl) rfl ret0_ok ?_
  simp
  refine CallZ.use0 (c_szHungS l 1048576 (by omega) hl wl) rfl rfl ?_
  simp
  intro ql
  have sl := szR_ge ql
  have ll : l.length ≤ 1048576 := by unfold Hung.szS at sl; omega
  have el : szR (Hung.szS l) 1048576 = ((1048576 - Hung.szS l : Nat) : Int) := by rw [szR_pos sl]; omega
  try rw [el]
  refine CallZ.use (c_toHungS l ll) rfl (.inr ⟨Hung.flat _, trivial⟩) rfl rfl ?_
  simp
  refine CallZ.use (c_spec_SwingsOf l ll) rfl (.inr ⟨Swing.flat _, trivial⟩) rfl rfl ?_
  simp
  refine CallZ.use (c_toHungS l ll) rfl (.inr ⟨Hung.flat _, trivial⟩) rfl rfl ?_
  simp
  refine CallZ.use (c_impl_SwingsOf l ll) rfl (.inr ⟨Swing.flat _, trivial⟩) rfl rfl ?_
  simp
  have hE := swOut_len l
  generalize gE : swOut l = E at *
  refine CallZ.use0 (c_eqSwingS E E (by omega)) rfl rfl ?_
  simp
  refine CallZ.use (c_toHungS l ll) rfl (.inr ⟨Hung.flat _, trivial⟩) rfl rfl ?_
  simp
  refine CallZ.use0 (c_eqHungS l l (by omega)) rfl rfl ?_
  simp
  refine CallZ.useK 2 (c_markHungS l (1) (by omega) (by omega)) rfl (by simp) rfl (by simp) rfl rfl ?_
  simp
  have qq1 : ¬ (1 + 5 * (l.length : Int) < 0) := by omega
  simp [qq1]
  first | refine CallY.use (fun _ => ⟨rfl, c_eqSwingS E E (by omega)⟩) rfl rfl ?_ | refine ⟨by intros; simp [*], CallY.use (fun _ => ⟨rfl, c_eqSwingS E E (by omega)⟩) rfl rfl ?_⟩
  simp
  refine CallZ.useK 3 (c_markSwingS E (1) (by omega) (by omega)) rfl (by simp) rfl (by simp) rfl rfl ?_
  simp
  refine CallZ.use0 (c_heldSwingS (Swing.marks (1) E.length) (1) (by omega) (by simp [Swing.marks_len]; omega) (by simp [Swing.marks_len])) rfl rfl ?_
  simp [Swing.marks_len]
  have qq2 : ¬ (1 + 3 * (E.length : Int) < 0) := by omega
  have qp2 : 0 ≤ 1 + 3 * (E.length : Int) := by omega
  try simp [qq2, qp2]
  refine CallZ.use (c_toHungS l ll) rfl (.inr ⟨Hung.flat _, trivial⟩) rfl rfl ?_
  simp
  refine CallZ.use (c_impl_SwingsOf l ll) rfl (.inr ⟨Swing.flat _, trivial⟩) rfl rfl ?_
  simp [gE]
  refine CallZ.use0 (c_eqSwingS E E (by omega)) rfl rfl ?_
  simp
  refine CallZ.use0 (c_heldSwingS (Swing.marks (1) E.length) (1) (by omega) (by simp [Swing.marks_len]; omega) (by simp [Swing.marks_len])) rfl rfl ?_
  simp [Swing.marks_len]
  have qq3 : ¬ (1 + 3 * (E.length : Int) < 0) := by omega
  have qp3 : 0 ≤ 1 + 3 * (E.length : Int) := by omega
  try simp [qp3]

theorem l_FnExactSwingsOf (pargs : List PV) (h : fitsAll [.one (.slc [.str, .int .i64, .int .i64, .int .i64, .int .i64])] pargs) : HFn Tryd.prog 3 pargs [] (.bool true) [] := by
  obtain ⟨p0, r0, rfl, f0, z0⟩ := fitsAll_cons h
  obtain rfl := fitsAll_nil z0
  obtain ⟨rows0, rfl, g0, y0⟩ := fits_slc f0
  obtain ⟨l, rfl, wl⟩ := Hung.fitsS y0
  exact c_law_SwingsOf l (by simpa [Hung.rows] using g0) wl
end Go.Proofs.YtmdablalfmcgnaaDoor

