/- Contract of the law on the reading of drums. No condition. -/
import Derived.Test.YtjmoilnklaeacaaGreatDoorOg
namespace Go.Proofs.YtjmoilnklaeacaaGreatDoor
open Go Go.Ab
set_option maxRecDepth 100000

set_option maxHeartbeats 4000000 in
theorem c_law_ReadDrum (s : List UInt8) : HFn Tryz.prog 3 [.str s] [] (.bool true) [] := by
  refine hfn_intro hm Tryz.func3 (by kernel_rfl) rfl (by kernel_rfl) rfl ret0_ok ?_
  simp
  intro hs
  have kS := c_spec_ReadDrum s (by omega)
  have kI := c_impl_ReadDrum s (by omega)
  have hE : ((drumR s).getD zeroDrum).notes.length ≤ 64 ∧ ((drumR s).getD zeroDrum).pins.length ≤ 1048576 := drumR_len s
  simp only [drumRP, drumRO] at kS kI
  generalize (drumR s).getD zeroDrum = E at *
  refine CallZ.use kS rfl (.inr ⟨flat_intRows _, Pin.flat _, trivial⟩) rfl rfl ?_
  simp
  refine CallZ.use kI rfl (.inr ⟨flat_intRows _, Pin.flat _, trivial⟩) rfl rfl ?_
  simp
  refine CallZ.use0 (c_eqDrum E E (by omega) (by omega)) rfl rfl ?_
  simp
  refine CallZ.useM [3, 4] [] [] (c_markDrum E.notes E.pins E.steps E.rest (1) (by omega) (by omega)) (by simp) rfl rfl (by simp) rfl rfl rfl (.inl rfl) ?_
  simp
  refine CallZ.use0 (c_heldDrum ⟨E.steps, E.rest, marksI (1) E.notes.length, Pin.marks (1 + E.notes.length) E.pins.length⟩ (1) (by omega) (by simp [marksI_len, Pin.marks_len]; omega) (by simp [marksI_len]) (by simp [marksI_len, Pin.marks_len])) rfl rfl ?_
  simp [marksI_len, Pin.marks_len]
  have qq2 : ¬ (1 + (E.notes.length : Int) + 2 * (E.pins.length : Int) < 0) := by omega
  have qp2 : 0 ≤ 1 + (E.notes.length : Int) + 2 * (E.pins.length : Int) := by omega
  try simp [qq2, qp2]
  refine CallZ.use kI rfl (.inr ⟨flat_intRows _, Pin.flat _, trivial⟩) rfl rfl ?_
  simp
  refine CallZ.use0 (c_eqDrum E E (by omega) (by omega)) rfl rfl ?_
  simp
  refine CallZ.use0 (c_heldDrum ⟨E.steps, E.rest, marksI (1) E.notes.length, Pin.marks (1 + E.notes.length) E.pins.length⟩ (1) (by omega) (by simp [marksI_len, Pin.marks_len]; omega) (by simp [marksI_len]) (by simp [marksI_len, Pin.marks_len])) rfl rfl ?_
  simp [marksI_len, Pin.marks_len]
  try simp [qp2]

theorem l_FnExactReadDrum (pargs : List PV) (h : fitsAll [.one .str] pargs) : HFn Tryz.prog 3 pargs [] (.bool true) [] := by
  obtain ⟨p0, r0, rfl, f0, z0⟩ := fitsAll_cons h
  obtain rfl := fitsAll_nil z0
  obtain ⟨s, rfl, _⟩ := fits_str f0
  exact c_law_ReadDrum s
end Go.Proofs.YtjmoilnklaeacaaGreatDoor
