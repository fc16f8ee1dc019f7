/- Contract of the law HammersNeeded. -/
import Derived.Test.YteomgilojaibeaaVf
namespace Go.Proofs.Yteomgilojaibeaa
open Go Go.Ab
set_option maxRecDepth 100000

theorem c_law_HammersNeeded (t : Tune) (p : Int) (r : Int) (wt : t.wf) (_wp : I64 p) (_wr : I64 r) : HFn Try.prog 4 [.agg t.cells, .int .i64 p, .int .i64 r] [] (.bool true) [] := by
  refine hfn_intro hm Try.func4 (by kernel_rfl) rfl (by kernel_rfl) rfl ret0_ok ?_
  simp [Tune.cells]
  refine CallZ.use0 (c_szTune t 1048576 (by omega) wt) rfl rfl ?_
  simp
  intro qt
  have st := szR_ge qt
  have lt := Tune.len_of_sz (d := t) (by omega)
  have et : szR (t.sz) 1048576 = ((1048576 - t.sz : Nat) : Int) := by rw [szR_pos st]; omega
  try rw [et]
  refine CallZ.use (c_toTune t st) rfl (.inr ⟨Tone.flat _, trivial⟩) rfl rfl ?_
  simp
  refine CallZ.use0 (c_spec_HammersNeeded t p r (by omega)) rfl rfl ?_
  simp
  refine CallZ.use (c_toTune t st) rfl (.inr ⟨Tone.flat _, trivial⟩) rfl rfl ?_
  simp
  refine CallZ.use0 (c_impl_HammersNeeded t p r (by omega)) rfl rfl ?_
  simp
  refine CallZ.use (c_toTune t st) rfl (.inr ⟨Tone.flat _, trivial⟩) rfl rfl ?_
  simp
  refine CallZ.use0 (c_eqTune t t (by omega)) rfl rfl ?_
  simp

theorem l_FnExactHammersNeeded (pargs : List PV) (h : fitsAll [.agg [.str, .slc [.int .i64, .int .i64, .int .i64]], .one (.int .i64), .one (.int .i64)] pargs) : HFn Try.prog 4 pargs [] (.bool true) [] := by
  obtain ⟨p0, r0, rfl, ⟨cs0, rfl, f0⟩, z0⟩ := fitsAll_cons h
  obtain ⟨p1, r1, rfl, f1, z1⟩ := fitsAll_cons z0
  obtain ⟨p2, r2, rfl, f2, z2⟩ := fitsAll_cons z1
  obtain rfl := fitsAll_nil z2
  obtain ⟨t, rfl, wt⟩ := Tune.fits f0
  obtain ⟨p, rfl, wp⟩ := fits_int f1
  obtain ⟨r, rfl, wr⟩ := fits_int f2
  exact c_law_HammersNeeded t p r wt (lit64 wp) (lit64 wr)
end Go.Proofs.Yteomgilojaibeaa

