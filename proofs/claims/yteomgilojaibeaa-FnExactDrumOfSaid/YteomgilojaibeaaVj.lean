/- Contract of the law DrumOf. -/
import Derived.Test.YteomgilojaibeaaVg
import Derived.Test.YteomgilojaibeaaVh
namespace Go.Proofs.Yteomgilojaibeaa
open Go Go.Ab
set_option maxRecDepth 100000

theorem c_law_DrumOf (t : Tune) (p : Int) (r : Int) (wt : t.wf) (_wp : I64 p) (_wr : I64 r) : HFn Try.prog 3 [.agg t.cells, .int .i64 p, .int .i64 r] [] (.bool true) [] := by
  refine hfn_intro hm Try.func3 (by kernel_rfl) rfl (by kernel_rfl) rfl ret0_ok ?_
  simp [Tune.cells]
  refine CallZ.use0 (c_szTune t 1048576 (by omega) wt) rfl rfl ?_
  simp
  intro qt
  have st := szR_ge qt
  have lt := Tune.len_of_sz (d := t) (by omega)
  have et : szR (t.sz) 1048576 = ((1048576 - t.sz : Nat) : Int) := by rw [szR_pos st]; omega
  try rw [et]
  refine CallZ.use (c_toTune t st) rfl (.inr ⟨Tone.flat _, trivial⟩) rfl rfl ?_
  simp
  refine CallZ.use (c_spec_DrumOf t p r (by omega)) rfl (.inr ⟨flat_intRows _, Pin.flat _, trivial⟩) rfl rfl ?_
  simp
  refine CallZ.use (c_toTune t st) rfl (.inr ⟨Tone.flat _, trivial⟩) rfl rfl ?_
  simp
  refine CallZ.use (c_impl_DrumOf t p r (by omega)) rfl (.inr ⟨flat_intRows _, Pin.flat _, trivial⟩) rfl rfl ?_
  simp
  have hE := drumOf_le (t := t) (per := p) (rest := r)
  generalize gE : drumOf t p r = E at *
  refine CallZ.use0 (c_eqDrum E E (by omega) (by omega)) rfl rfl ?_
  simp
  refine CallZ.use (c_toTune t st) rfl (.inr ⟨Tone.flat _, trivial⟩) rfl rfl ?_
  simp
  refine CallZ.use0 (c_eqTune t t (by omega)) rfl rfl ?_
  simp
  refine CallZ.useK 5 (c_markTune t.name t.tones (1) (by omega) (by omega)) rfl (by simp) rfl (by simp) rfl rfl ?_
  simp
  have qq1 : ¬ (1 + 3 * (t.tones.length : Int) < 0) := by omega
  simp [qq1]
  first | refine CallY.use (fun _ => ⟨rfl, c_eqDrum E E (by omega) (by omega)⟩) rfl rfl ?_ | refine ⟨by intros; simp [*], CallY.use (fun _ => ⟨rfl, c_eqDrum E E (by omega) (by omega)⟩) rfl rfl ?_⟩
  simp
  refine CallZ.useM [7, 8] [] [] (c_markDrum E.notes E.pins E.steps E.rest (1) (by omega) (by omega)) (by simp) rfl rfl (by simp) rfl rfl rfl (.inl rfl) ?_
  simp
  refine CallZ.use0 (c_heldDrum ⟨E.steps, E.rest, marksI (1) E.notes.length, Pin.marks (1 + E.notes.length) E.pins.length⟩ (1) (by omega) (by simp [marksI_len, Pin.marks_len]; omega) (by simp [marksI_len]) (by simp [marksI_len, Pin.marks_len])) rfl rfl ?_
  simp [marksI_len, Pin.marks_len]
  have qq2 : ¬ (1 + (E.notes.length : Int) + 2 * (E.pins.length : Int) < 0) := by omega
  have qp2 : 0 ≤ 1 + (E.notes.length : Int) + 2 * (E.pins.length : Int) := by omega
  try simp [qq2, qp2]
  refine CallZ.use (c_toTune t st) rfl (.inr ⟨Tone.flat _, trivial⟩) rfl rfl ?_
  simp
  refine CallZ.use (c_impl_DrumOf t p r (by omega)) rfl (.inr ⟨flat_intRows _, Pin.flat _, trivial⟩) rfl rfl ?_
  simp [gE]
  refine CallZ.use0 (c_eqDrum E E (by omega) (by omega)) rfl rfl ?_
  simp
  refine CallZ.use0 (c_heldDrum ⟨E.steps, E.rest, marksI (1) E.notes.length, Pin.marks (1 + E.notes.length) E.pins.length⟩ (1) (by omega) (by simp [marksI_len, Pin.marks_len]; omega) (by simp [marksI_len]) (by simp [marksI_len, Pin.marks_len])) rfl rfl ?_
  simp [marksI_len, Pin.marks_len]
  have qq3 : ¬ (1 + (E.notes.length : Int) + 2 * (E.pins.length : Int) < 0) := by omega
  have qp3 : 0 ≤ 1 + (E.notes.length : Int) + 2 * (E.pins.length : Int) := by omega
  try simp [qp3]

theorem l_FnExactDrumOf (pargs : List PV) (h : fitsAll [.agg [.str, .slc [.int .i64, .int .i64, .int .i64]], .one (.int .i64), .one (.int .i64)] pargs) : HFn Try.prog 3 pargs [] (.bool true) [] := by
  obtain ⟨p0, r0, rfl, ⟨cs0, rfl, f0⟩, z0⟩ := fitsAll_cons h
  obtain ⟨p1, r1, rfl, f1, z1⟩ := fitsAll_cons z0
  obtain ⟨p2, r2, rfl, f2, z2⟩ := fitsAll_cons z1
  obtain rfl := fitsAll_nil z2
  obtain ⟨t, rfl, wt⟩ := Tune.fits f0
  obtain ⟨p, rfl, wp⟩ := fits_int f1
  obtain ⟨r, rfl, wr⟩ := fits_int f2
  exact c_law_DrumOf t p r wt (lit64 wp) (lit64 wr)
end Go.Proofs.Yteomgilojaibeaa

