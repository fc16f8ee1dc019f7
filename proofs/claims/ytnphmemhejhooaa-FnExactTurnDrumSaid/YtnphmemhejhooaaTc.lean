/- Contract of the law TurnDrum. -/
import Derived.Test.YtnphmemhejhooaaTb
namespace Go.Proofs.Ytnphmemhejhooaa
open Go Go.Ab
set_option maxRecDepth 100000

theorem c_law_TurnDrum (d : Drum) (q : Int) (wd : d.wf) (_wq : I64 q) : HFn Try.prog 8 [.agg d.cells, .int .i64 q] [] (.bool true) [] := by
  refine hfn_intro hm Try.func8 (by kernel_rfl) rfl (by kernel_rfl) rfl ret0_ok ?_
  simp [Drum.cells]
  refine CallZ.use0 (c_szDrum d 1048576 (by omega) wd) rfl rfl ?_
  simp
  intro qd
  have sd := szR_ge qd
  obtain ⟨ld, md⟩ := Drum.len_of_sz (d := d) (by omega)
  have ed : szR (d.sz) 1048576 = ((1048576 - d.sz : Nat) : Int) := by rw [szR_pos sd]; omega
  try rw [ed]
  refine CallZ.use (c_toDrum d sd) rfl (.inr ⟨flat_intRows _, Pin.flat _, trivial⟩) rfl rfl ?_
  simp
  refine CallZ.use (c_spec_TurnDrum d q (by omega) (by omega)) rfl (.inr ⟨flat_intRows _, Pin.flat _, trivial⟩) rfl rfl ?_
  simp
  refine CallZ.use (c_toDrum d sd) rfl (.inr ⟨flat_intRows _, Pin.flat _, trivial⟩) rfl rfl ?_
  simp
  refine CallZ.use (c_impl_TurnDrum d q (by omega) (by omega)) rfl (.inr ⟨flat_intRows _, Pin.flat _, trivial⟩) rfl rfl ?_
  simp
  have hE := turnD_le d q
  generalize gE : turnD d q = E at *
  refine CallZ.use0 (c_eqDrum E E (by omega) (by omega)) rfl rfl ?_
  simp
  refine CallZ.use (c_toDrum d sd) rfl (.inr ⟨flat_intRows _, Pin.flat _, trivial⟩) rfl rfl ?_
  simp
  refine CallZ.use0 (c_eqDrum d d (by omega) (by omega)) rfl rfl ?_
  simp
  refine CallZ.useM [6, 7] [] [] (c_markDrum d.notes d.pins d.steps d.rest (1) (by omega) (by omega)) (by simp) rfl rfl (by simp) rfl rfl rfl (.inl rfl) ?_
  simp
  have qq1 : ¬ (1 + (d.notes.length : Int) + 2 * (d.pins.length : Int) < 0) := by omega
  simp [qq1]
  first | refine CallY.use (fun _ => ⟨rfl, c_eqDrum E E (by omega) (by omega)⟩) rfl rfl ?_ | refine ⟨by intros; simp [*], CallY.use (fun _ => ⟨rfl, c_eqDrum E E (by omega) (by omega)⟩) rfl rfl ?_⟩
  simp
  refine CallZ.useM [9, 10] [] [] (c_markDrum E.notes E.pins E.steps E.rest (1) (by omega) (by omega)) (by simp) rfl rfl (by simp) rfl rfl rfl (.inl rfl) ?_
  simp
  refine CallZ.use0 (c_heldDrum ⟨E.steps, E.rest, marksI (1) E.notes.length, Pin.marks (1 + E.notes.length) E.pins.length⟩ (1) (by omega) (by simp [marksI_len, Pin.marks_len]; omega) (by simp [marksI_len]) (by simp [marksI_len, Pin.marks_len])) rfl rfl ?_
  simp [marksI_len, Pin.marks_len]
  have qq2 : ¬ (1 + (E.notes.length : Int) + 2 * (E.pins.length : Int) < 0) := by omega
  have qp2 : 0 ≤ 1 + (E.notes.length : Int) + 2 * (E.pins.length : Int) := by omega
  try simp [qq2, qp2]
  refine CallZ.use (c_toDrum d sd) rfl (.inr ⟨flat_intRows _, Pin.flat _, trivial⟩) rfl rfl ?_
  simp
  refine CallZ.use (c_impl_TurnDrum d q (by omega) (by omega)) rfl (.inr ⟨flat_intRows _, Pin.flat _, trivial⟩) rfl rfl ?_
  simp [gE]
  refine CallZ.use0 (c_eqDrum E E (by omega) (by omega)) rfl rfl ?_
  simp
  refine CallZ.use0 (c_heldDrum ⟨E.steps, E.rest, marksI (1) E.notes.length, Pin.marks (1 + E.notes.length) E.pins.length⟩ (1) (by omega) (by simp [marksI_len, Pin.marks_len]; omega) (by simp [marksI_len]) (by simp [marksI_len, Pin.marks_len])) rfl rfl ?_
  simp [marksI_len, Pin.marks_len]
  have qq3 : ¬ (1 + (E.notes.length : Int) + 2 * (E.pins.length : Int) < 0) := by omega
  have qp3 : 0 ≤ 1 + (E.notes.length : Int) + 2 * (E.pins.length : Int) := by omega
  try simp [qp3]

theorem l_FnExactTurnDrum (pargs : List PV) (h : fitsAll [.agg [.int .i64, .int .i64, .slc [.int .i64], .slc [.int .i64, .int .i64]], .one (.int .i64)] pargs) : HFn Try.prog 8 pargs [] (.bool true) [] := by
  obtain ⟨p0, r0, rfl, ⟨cs0, rfl, f0⟩, z0⟩ := fitsAll_cons h
  obtain ⟨p1, r1, rfl, f1, z1⟩ := fitsAll_cons z0
  obtain rfl := fitsAll_nil z1
  obtain ⟨d, rfl, wd⟩ := Drum.fits f0
  obtain ⟨q, rfl, wq⟩ := fits_int f1
  exact c_law_TurnDrum d q wd (lit64 wq)
end Go.Proofs.Ytnphmemhejhooaa

