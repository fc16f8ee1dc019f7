/- Contracts of the laws on ledgers: HistoryOf. -/
import Derived.Test.YtaefhahgkijnfaaHi
namespace Go.Proofs.Ytaefhahgkijnfaa
open Go Go.Ab
set_option maxRecDepth 100000

theorem c_law_HistoryOf (l : List Record) (s : List UInt8) (hl : l.length ≤ 9223372036854775807) (wl : ∀ x ∈ l, x.wf) (_ws : s.length ≤ 9223372036854775807) : HFn Try.prog 9 [.sl 3 (Record.rows l), .str s] [] (.bool true) [] := by
  refine hfn_intro hm Try.func9 (by kernel_rfl) rfl (by kernel_rfl) rfl ret0_ok ?_
  simp
  intro ns
  refine CallZ.use0 (c_szRecordS l 1048576 (by omega) hl wl) rfl rfl ?_
  simp
  intro ql
  have sl := szR_ge ql
  have ll : l.length ≤ 1048576 := by unfold Record.szS at sl; omega
  have el : szR (Record.szS l) 1048576 = ((1048576 - Record.szS l : Nat) : Int) := by rw [szR_pos sl]; omega
  try rw [el]
  refine CallZ.use (c_toRecordS l ll) rfl (.inr ⟨Record.flat _, trivial⟩) rfl rfl ?_
  simp
  refine CallZ.use (c_spec_HistoryOf l s ll wl) rfl (.inr ⟨flat_intRows _, trivial⟩) rfl rfl ?_
  simp
  refine CallZ.use (c_toRecordS l ll) rfl (.inr ⟨Record.flat _, trivial⟩) rfl rfl ?_
  simp
  refine CallZ.use (c_impl_HistoryOf l s ll wl) rfl (.inr ⟨flat_intRows _, trivial⟩) rfl rfl ?_
  simp
  have hE := hisL_le l s
  generalize gE : hisL l s = E at *
  refine CallZ.use0 (c_eqInt64S E E (by omega)) rfl rfl ?_
  simp
  refine CallZ.use (c_toRecordS l ll) rfl (.inr ⟨Record.flat _, trivial⟩) rfl rfl ?_
  simp
  refine CallZ.use0 (c_eqRecordS l l (by omega)) rfl rfl ?_
  simp
  refine CallZ.useK 2 (c_markRecordS l (1) (by omega) (by omega)) rfl (by simp) rfl (by simp) rfl rfl ?_
  simp
  have qq1 : ¬ (1 + 3 * (l.length : Int) < 0) := by omega
  simp [qq1]
  first | refine CallY.use (fun _ => ⟨rfl, c_eqInt64S E E (by omega)⟩) rfl rfl ?_ | refine ⟨by intros; simp [*], CallY.use (fun _ => ⟨rfl, c_eqInt64S E E (by omega)⟩) rfl rfl ?_⟩
  simp
  refine CallZ.useK 3 (c_markInt64S E (1) (by omega) (by omega)) rfl (by simp) rfl (by simp) rfl rfl ?_
  simp
  refine CallZ.use0 (c_heldInt64S (marksI (1) E.length) (1) (by omega) (by simp [marksI_len]; omega) (by simp [marksI_len])) rfl rfl ?_
  simp [marksI_len]
  have qq2 : ¬ (1 + (E.length : Int) < 0) := by omega
  have qp2 : 0 ≤ 1 + (E.length : Int) := by omega
  try simp [qq2, qp2]
  refine CallZ.use (c_toRecordS l ll) rfl (.inr ⟨Record.flat _, trivial⟩) rfl rfl ?_
  simp
  refine CallZ.use (c_impl_HistoryOf l s ll wl) rfl (.inr ⟨flat_intRows _, trivial⟩) rfl rfl ?_
  simp [gE]
  refine CallZ.use0 (c_eqInt64S E E (by omega)) rfl rfl ?_
  simp
  refine CallZ.use0 (c_heldInt64S (marksI (1) E.length) (1) (by omega) (by simp [marksI_len]; omega) (by simp [marksI_len])) rfl rfl ?_
  simp [marksI_len]
  have qq3 : ¬ (1 + (E.length : Int) < 0) := by omega
  have qp3 : 0 ≤ 1 + (E.length : Int) := by omega
  try simp [qp3]

theorem l_FnExactHistoryOf (pargs : List PV) (h : fitsAll [.one (.slc [.int .i64, .str, .str]), .one .str] pargs) : HFn Try.prog 9 pargs [] (.bool true) [] := by
  obtain ⟨p0, r0, rfl, f0, z0⟩ := fitsAll_cons h
  obtain ⟨p1, r1, rfl, f1, z1⟩ := fitsAll_cons z0
  obtain rfl := fitsAll_nil z1
  obtain ⟨rows0, rfl, g0, y0⟩ := fits_slc f0
  obtain ⟨l, rfl, wl⟩ := Record.fitsS y0
  obtain ⟨s, rfl, ws⟩ := fits_str f1
  exact c_law_HistoryOf l s (by simpa [Record.rows] using g0) wl ws
end Go.Proofs.Ytaefhahgkijnfaa

