/- Contract of the law DrumText. -/
import Derived.Test.YtnphmemhejhooaaDoorJg
namespace Go.Proofs.YtnphmemhejhooaaDoor
open Go Go.Ab
set_option maxRecDepth 100000

theorem c_law_DrumText (d : Drum) (wd : d.wf) : HFn Tryd.prog 5 [.agg d.cells] [] (.bool true) [] := by
  refine hfn_intro hm Tryd.func5 (by kernel_rfl) rfl (by kernel_rfl) rfl ret0_ok ?_
  simp [Drum.cells]
  refine CallZ.use0 (c_szDrum d 1048576 (by omega) wd) rfl rfl ?_
  simp
  intro qd
  have sd := szR_ge qd
  obtain ⟨ld, md⟩ := Drum.len_of_sz (d := d) (by omega)
  have ed : szR (d.sz) 1048576 = ((1048576 - d.sz : Nat) : Int) := by rw [szR_pos sd]; omega
  try rw [ed]
  refine CallZ.use (c_toDrum d sd) rfl (.inr ⟨flat_intRows _, Pin.flat _, trivial⟩) rfl rfl ?_
  simp
  refine CallZ.use0 (c_spec_DrumText d (by omega) (by omega)) rfl rfl ?_
  simp
  refine CallZ.use (c_toDrum d sd) rfl (.inr ⟨flat_intRows _, Pin.flat _, trivial⟩) rfl rfl ?_
  simp
  refine CallZ.use0 (c_impl_DrumText d (by omega) (by omega)) rfl rfl ?_
  simp
  refine CallZ.use (c_toDrum d sd) rfl (.inr ⟨flat_intRows _, Pin.flat _, trivial⟩) rfl rfl ?_
  simp
  refine CallZ.use0 (c_eqDrum d d (by omega) (by omega)) rfl rfl ?_
  simp

theorem l_FnExactDrumText (pargs : List PV) (h : fitsAll [.agg [.int .i64, .int .i64, .slc [.int .i64], .slc [.int .i64, .int .i64]]] pargs) : HFn Tryd.prog 5 pargs [] (.bool true) [] := by
  obtain ⟨p0, r0, rfl, ⟨cs0, rfl, f0⟩, z0⟩ := fitsAll_cons h
  obtain rfl := fitsAll_nil z0
  obtain ⟨d, rfl, wd⟩ := Drum.fits f0
  exact c_law_DrumText d wd
end Go.Proofs.YtnphmemhejhooaaDoor

