/- Contract of the law on SaveLedger. -/
import Derived.Test.YtmdablalfmcgnaaDoorYf
import Derived.Test.YtmdablalfmcgnaaDoorHh
namespace Go.Proofs.YtmdablalfmcgnaaDoor
open Go Go.Ab
set_option maxRecDepth 100000

theorem c_spec_SaveLedgerA (l : List Record) (hl : l.length ≤ 1048576) (hw : ∀ x ∈ l, x.wf) : HFn Tryd.prog 16 [.sl 3 (Record.rows l)] [] (.tup [.str (saveT l), .int .i64 (saveC l)]) [] := by
  refine hfn_intro hm Tryd.func16 (by kernel_rfl) rfl (by kernel_rfl) rfl ret0_ok ?_
  simp
  refine CallZ.use0 (c_l30Ok l hl hw) rfl rfl ?_
  simp
  refine ⟨fun h => by simp [saveT, saveC, h], fun h => ?_⟩
  obtain ⟨h1, h2⟩ := short_of h
  refine CallZ.use0 (c_l30Save l (by omega) h2) rfl rfl ?_
  simp [saveT, saveC, h]

theorem c_law_SaveLedger (l : List Record) (hl : l.length ≤ 9223372036854775807) (wl : ∀ x ∈ l, x.wf) : HFn Tryd.prog 4 [.sl 3 (Record.rows l)] [] (.bool true) [] := by
  refine hfn_intro hm Tryd.func4 (by kernel_rfl) rfl (by kernel_rfl) rfl ret0_ok ?_
  simp
  refine CallZ.use0 (c_szRecordS l 1048576 (by omega) hl wl) rfl rfl ?_
  simp
  intro ql
  have sl := szR_ge ql
  have ll : l.length ≤ 1048576 := by unfold Record.szS at sl; omega
  have el : szR (Record.szS l) 1048576 = ((1048576 - Record.szS l : Nat) : Int) := by rw [szR_pos sl]; omega
  try rw [el]
  refine CallZ.use (c_toRecordS l ll) rfl (.inr ⟨Record.flat _, trivial⟩) rfl rfl ?_
  simp
  refine CallZ.use0 (c_spec_SaveLedgerA l ll wl) rfl rfl ?_
  simp
  refine CallZ.use (c_toRecordS l ll) rfl (.inr ⟨Record.flat _, trivial⟩) rfl rfl ?_
  simp
  refine CallZ.use0 (c_impl_SaveLedger l ll wl) rfl rfl ?_
  simp
  refine CallZ.use (c_toRecordS l ll) rfl (.inr ⟨Record.flat _, trivial⟩) rfl rfl ?_
  simp
  refine CallZ.use0 (c_eqRecordS l l (by omega)) rfl rfl ?_
  simp

theorem l_FnExactSaveLedger (pargs : List PV) (h : fitsAll [.one (.slc [.int .i64, .str, .str])] pargs) : HFn Tryd.prog 4 pargs [] (.bool true) [] := by
  obtain ⟨p0, r0, rfl, f0, z0⟩ := fitsAll_cons h
  obtain rfl := fitsAll_nil z0
  obtain ⟨rows0, rfl, g0, y0⟩ := fits_slc f0
  obtain ⟨l, rfl, wl⟩ := Record.fitsS y0
  exact c_law_SaveLedger l (by simpa [Record.rows] using g0) wl
end Go.Proofs.YtmdablalfmcgnaaDoor

