/- Contract of the law PlayDrum. -/
import Derived.Test.YteomgilojaibeaaWg
namespace Go.Proofs.Yteomgilojaibeaa
open Go Go.Ab
set_option maxRecDepth 100000

theorem c_law_PlayDrum (d : Drum) (p : Int) (wd : d.wf) (_wp : I64 p) : HFn Try.prog 5 [.agg d.cells, .int .i64 p] [] (.bool true) [] := by
  refine hfn_intro hm Try.func5 (by kernel_rfl) rfl (by kernel_rfl) rfl ret0_ok ?_
  simp [Drum.cells]
  refine CallZ.use0 (c_szDrum d 1048576 (by omega) wd) rfl rfl ?_
  simp
  intro qd
  have sd := szR_ge qd
  obtain ⟨ld, md⟩ := Drum.len_of_sz (d := d) (by omega)
  have ed : szR (d.sz) 1048576 = ((1048576 - d.sz : Nat) : Int) := by rw [szR_pos sd]; omega
  try rw [ed]
  refine CallZ.use (c_toDrum d sd) rfl (.inr ⟨flat_intRows _, Pin.flat _, trivial⟩) rfl rfl ?_
  simp
  refine CallZ.use (c_spec_PlayDrum d p ld md) rfl (.inr ⟨Tone.flat _, trivial⟩) rfl rfl ?_
  simp
  refine CallZ.use (c_toDrum d sd) rfl (.inr ⟨flat_intRows _, Pin.flat _, trivial⟩) rfl rfl ?_
  simp
  refine CallZ.use (c_impl_PlayDrum d p ld md) rfl (.inr ⟨Tone.flat _, trivial⟩) rfl rfl ?_
  simp
  have hE := playOf_le d p
  generalize gE : playOf d p = E at *
  refine CallZ.use0 (c_eqTune E E (by omega)) rfl rfl ?_
  simp
  refine CallZ.use (c_toDrum d sd) rfl (.inr ⟨flat_intRows _, Pin.flat _, trivial⟩) rfl rfl ?_
  simp
  refine CallZ.use0 (c_eqDrum d d (by omega) (by omega)) rfl rfl ?_
  simp
  refine CallZ.useM [5, 6] [] [] (c_markDrum d.notes d.pins d.steps d.rest (1) (by omega) (by omega)) (by simp) rfl rfl (by simp) rfl rfl rfl (.inl rfl) ?_
  simp
  have qq1 : ¬ (1 + (d.notes.length : Int) + 2 * (d.pins.length : Int) < 0) := by omega
  simp [qq1]
  first | refine CallY.use (fun _ => ⟨rfl, c_eqTune E E (by omega)⟩) rfl rfl ?_ | refine ⟨by intros; simp [*], CallY.use (fun _ => ⟨rfl, c_eqTune E E (by omega)⟩) rfl rfl ?_⟩
  simp
  refine CallZ.useK 8 (c_markTune E.name E.tones (1) (by omega) (by omega)) rfl (by simp) rfl (by simp) rfl rfl ?_
  simp
  refine CallZ.use0 (c_heldTune ⟨E.name, Tone.marks (1) E.tones.length⟩ (1) (by omega) (by simp [Tone.marks_len]; omega) (by simp [Tone.marks_len])) rfl rfl ?_
  simp [Tone.marks_len]
  have qq2 : ¬ (1 + 3 * (E.tones.length : Int) < 0) := by omega
  have qp2 : 0 ≤ 1 + 3 * (E.tones.length : Int) := by omega
  try simp [qq2, qp2]
  refine CallZ.use (c_toDrum d sd) rfl (.inr ⟨flat_intRows _, Pin.flat _, trivial⟩) rfl rfl ?_
  simp
  refine CallZ.use (c_impl_PlayDrum d p ld md) rfl (.inr ⟨Tone.flat _, trivial⟩) rfl rfl ?_
  simp [gE]
  refine CallZ.use0 (c_eqTune E E (by omega)) rfl rfl ?_
  simp
  refine CallZ.use0 (c_heldTune ⟨E.name, Tone.marks (1) E.tones.length⟩ (1) (by omega) (by simp [Tone.marks_len]; omega) (by simp [Tone.marks_len])) rfl rfl ?_
  simp [Tone.marks_len]
  have qq3 : ¬ (1 + 3 * (E.tones.length : Int) < 0) := by omega
  have qp3 : 0 ≤ 1 + 3 * (E.tones.length : Int) := by omega
  try simp [qp3]

theorem l_FnExactPlayDrum (pargs : List PV) (h : fitsAll [.agg [.int .i64, .int .i64, .slc [.int .i64], .slc [.int .i64, .int .i64]], .one (.int .i64)] pargs) : HFn Try.prog 5 pargs [] (.bool true) [] := by
  obtain ⟨p0, r0, rfl, ⟨cs0, rfl, f0⟩, z0⟩ := fitsAll_cons h
  obtain ⟨p1, r1, rfl, f1, z1⟩ := fitsAll_cons z0
  obtain rfl := fitsAll_nil z1
  obtain ⟨d, rfl, wd⟩ := Drum.fits f0
  obtain ⟨p, rfl, wp⟩ := fits_int f1
  exact c_law_PlayDrum d p wd (lit64 wp)
end Go.Proofs.Yteomgilojaibeaa

