/- Contracts: the steps of a hammer, in own memory. -/
import Derived.Test.YtnidojjahhhaaaaDc
namespace Go.Proofs.Ytnidojjahhhaaaa
open Go Go.Ab
set_option maxRecDepth 100000


def lineCode (d : Drum) (h : Int) : Int := if validDrum d = true then (if 0 ≤ h ∧ h ≤ (d.notes.length : Int) - 1 then 0 else 2) else 1
def lineL (d : Drum) (h : Int) : List Int := if lineCode d h = 0 then lineOf d.pins h else []
theorem lineL_le (d : Drum) (h : Int) : (lineL d h).length ≤ d.pins.length := by
  unfold lineL
  split
  · exact lineOf_len _ _
  · simp

theorem c_impl_LineOf (d : Drum) (h : Int) (hn : d.notes.length ≤ 1048576) (hp : d.pins.length ≤ 1048576) :
    HFn Try.prog 48 [.agg d.cells, .int .i64 h] [] (.tup [.sf 0 1, .int .i64 (lineCode d h)]) [some (.arr 1 (intRows (lineL d h)))] := by
  refine hfn_intro hm Try.func48 (by kernel_rfl) rfl (by kernel_rfl) rfl (fun _ _ h => h) ?_
  simp [Drum.cells]
  refine CallZ.use0 (c_impl_ValidDrum d hn hp) rfl rfl ?_
  simp
  refine ⟨fun e => ?_, fun e => ?_⟩
  · refine (weak_nilT (t := 0) 0 1 rfl rfl).trans (Wk.weak (ρ := [1]) (φ := []) ?_)
    simp [lineL, lineCode, e, intRows]
  · refine CallZ.use0 (c_sizeInt d.notes) rfl rfl ?_
    simp
    rw [w64 (n := (d.notes.length : Int) - 1) (by omega) (by omega)]
    refine CallZ.use0 (c_within _ _ _) rfl rfl ?_
    simp
    refine ⟨fun g => ?_, fun g1 g2 => ?_⟩
    · refine (weak_nilT (t := 0) 0 1 rfl rfl).trans (Wk.weak (ρ := [1]) (φ := []) ?_)
      have : lineCode d h = 2 := by simp [lineCode, e]; omega
      simp [lineL, this, intRows]
    · refine CallZ.use (c_stepsOfHammer d h hp) rfl (by first | exact .inl rfl | exact .inr ⟨flat_intRows _, trivial⟩ | exact .inr ⟨Pin.flat _, trivial⟩ | exact .inr ⟨flat_intRows _, Pin.flat _, trivial⟩) rfl rfl ?_
      simp
      refine Wk.weak (ρ := [1]) (φ := []) ?_
      have : lineCode d h = 0 := by simp [lineCode, e]; omega
      simp [lineL, this]

theorem c_spec_LineOf (d : Drum) (h : Int) (hn : d.notes.length ≤ 1048576) (hp : d.pins.length ≤ 1048576) :
    HFn Try.prog 47 [.agg d.cells, .int .i64 h] [] (.tup [.sf 0 1, .int .i64 (lineCode d h)]) [some (.arr 1 (intRows (lineL d h)))] := by
  refine hfn_intro hm Try.func47 (by kernel_rfl) rfl (by kernel_rfl) rfl (fun _ _ h => h) ?_
  simp [Drum.cells]
  refine CallZ.use0 (c_spec_l28Ok d hn hp) rfl rfl ?_
  simp
  refine ⟨fun e => ?_, fun e => ?_⟩
  · refine (weak_nilT (t := 0) 0 1 rfl rfl).trans (Wk.weak (ρ := [1]) (φ := []) ?_)
    simp [lineL, lineCode, e, intRows]
  · simp [intRows_len]
    rw [w64 (n := (d.notes.length : Int) - 1) (by omega) (by omega)]
    refine CallZ.use0 (c_l00In _ _ _) rfl rfl ?_
    simp
    refine ⟨fun g => ?_, fun g1 g2 => ?_⟩
    · refine (weak_nilT (t := 0) 0 1 rfl rfl).trans (Wk.weak (ρ := [1]) (φ := []) ?_)
      have : lineCode d h = 2 := by simp [lineCode, e]; omega
      simp [lineL, this, intRows]
    · refine CallZ.use (c_l28Line d h hp) rfl (by first | exact .inl rfl | exact .inr ⟨flat_intRows _, trivial⟩ | exact .inr ⟨Pin.flat _, trivial⟩ | exact .inr ⟨flat_intRows _, Pin.flat _, trivial⟩) rfl rfl ?_
      simp
      refine Wk.weak (ρ := [1]) (φ := []) ?_
      have : lineCode d h = 0 := by simp [lineCode, e]; omega
      simp [lineL, this]

theorem c_markDrum (n : List Int) (p : List Pin) (s r k : Int) (hk : 0 ≤ k) (ha : n.length + 2 * p.length + k ≤ 1000000000) : MFn Try.prog 49 [.agg [.int .i64 s, .int .i64 r, .sf 0 1, .sf 1 2], .int .i64 k] [some (.arr 1 (intRows n)), some (.arr 2 (Pin.rows p))] [0, 1]
    (.int .i64 (k + n.length + 2 * p.length)) [some (.arr 1 (intRows (marksI k n.length))), some (.arr 2 (Pin.rows (Pin.marks (k + n.length) p.length)))] := by
  refine mfn_intro [0, 1] hm Try.func49 (by kernel_rfl) rfl (by kernel_rfl) rfl (retM_ok (ρ := [0, 1]) (φ := [])) (by simp [intRows, marksI, Pin.rows, Pin.marks]) ?_
  simp
  refine CallZ.useK 0 (c_markInt64S n k hk (by omega)) rfl (by simp) rfl (by simp) rfl rfl ?_
  simp
  refine CallZ.useK 1 (c_markPinS p (k + n.length) (by omega) (by omega)) rfl (by simp) rfl (by simp) rfl rfl ?_
  simp

theorem c_heldDrum (a : Drum) (k : Int) (hk : 0 ≤ k) (ha : a.notes.length + 2 * a.pins.length + k ≤ 1000000000) (h1 : a.notes = marksI k a.notes.length) (h2 : a.pins = Pin.marks (k + a.notes.length) a.pins.length) :
    HFn Try.prog 53 [.agg a.cells, .int .i64 k] [] (.int .i64 (k + a.notes.length + 2 * a.pins.length)) [] := by
  refine hfn_intro hm Try.func53 (by kernel_rfl) rfl (by kernel_rfl) rfl ret0_ok ?_
  simp [Drum.cells]
  refine CallZ.use0 (c_heldInt64S a.notes k hk (by omega) h1) rfl rfl ?_
  simp
  refine ⟨fun h => absurd h (by omega), fun _ => ?_⟩
  refine CallZ.use0 (c_heldPinS a.pins (k + a.notes.length) (by omega) (by omega) h2) rfl rfl ?_
  simp
  omega

theorem c_law_LineOf (a : Drum) (n : Int) (ha : a.wf) : HFn Try.prog 11 [.agg a.cells, .int .i64 n] [] (.bool true) [] := by
  refine hfn_intro hm Try.func11 (by kernel_rfl) rfl (by kernel_rfl) rfl ret0_ok ?_
  simp [Drum.cells]
  refine CallZ.use0 (c_szDrum a 1048576 (by omega) ha) rfl rfl ?_
  simp
  intro h1
  have h1' := szR_ge h1
  obtain ⟨l1, l2⟩ := Drum.len_of_sz h1'
  refine CallZ.use (c_toDrum a h1') rfl (by first | exact .inl rfl | exact .inr ⟨flat_intRows _, trivial⟩ | exact .inr ⟨Pin.flat _, trivial⟩ | exact .inr ⟨flat_intRows _, Pin.flat _, trivial⟩) rfl rfl ?_
  simp
  refine CallZ.use (c_spec_LineOf a n l1 l2) rfl (by first | exact .inl rfl | exact .inr ⟨flat_intRows _, trivial⟩ | exact .inr ⟨Pin.flat _, trivial⟩ | exact .inr ⟨flat_intRows _, Pin.flat _, trivial⟩) rfl rfl ?_
  simp
  refine CallZ.use (c_toDrum a h1') rfl (by first | exact .inl rfl | exact .inr ⟨flat_intRows _, trivial⟩ | exact .inr ⟨Pin.flat _, trivial⟩ | exact .inr ⟨flat_intRows _, Pin.flat _, trivial⟩) rfl rfl ?_
  simp
  refine CallZ.use (c_impl_LineOf a n l1 l2) rfl (by first | exact .inl rfl | exact .inr ⟨flat_intRows _, trivial⟩ | exact .inr ⟨Pin.flat _, trivial⟩ | exact .inr ⟨flat_intRows _, Pin.flat _, trivial⟩) rfl rfl ?_
  simp
  have hE := lineL_le a n
  generalize hEe : lineL a n = E at *
  refine CallZ.use0 (c_eqInt64S E E (by omega)) rfl rfl ?_
  simp
  refine CallZ.use (c_toDrum a h1') rfl (by first | exact .inl rfl | exact .inr ⟨flat_intRows _, trivial⟩ | exact .inr ⟨Pin.flat _, trivial⟩ | exact .inr ⟨flat_intRows _, Pin.flat _, trivial⟩) rfl rfl ?_
  simp
  refine CallZ.use0 (c_eqDrum a a (by omega) (by omega)) rfl rfl ?_
  simp
  refine CallZ.useM [4, 5] [] [] (c_markDrum a.notes a.pins a.steps a.rest 1 (by omega) (by omega)) (by simp) rfl rfl (by simp) rfl rfl rfl (.inl rfl) ?_
  simp
  have h0 : ¬ (1 + (a.notes.length : Int) + 2 * a.pins.length < 0) := by omega
  simp [h0]
  refine CallY.use (fun _ => ⟨rfl, c_eqInt64S E E (by omega)⟩) rfl rfl ?_
  simp
  refine CallZ.useK 7 (c_markInt64S E 1 (by omega) (by omega)) rfl (by simp) rfl (by simp) rfl rfl ?_
  simp
  refine CallZ.use0 (c_heldInt64S (marksI 1 E.length) 1 (by omega) (by simp [marksI]; omega) (by simp [marksI])) rfl rfl ?_
  simp [marksI_len]
  have h3 : 0 ≤ 1 + (E.length : Int) := by omega
  simp [h3]
  refine CallZ.use (c_toDrum a h1') rfl (by first | exact .inl rfl | exact .inr ⟨flat_intRows _, trivial⟩ | exact .inr ⟨Pin.flat _, trivial⟩ | exact .inr ⟨flat_intRows _, Pin.flat _, trivial⟩) rfl rfl ?_
  simp
  refine CallZ.use (c_impl_LineOf a n l1 l2) rfl (by first | exact .inl rfl | exact .inr ⟨flat_intRows _, trivial⟩ | exact .inr ⟨Pin.flat _, trivial⟩ | exact .inr ⟨flat_intRows _, Pin.flat _, trivial⟩) rfl rfl ?_
  simp [hEe]
  refine CallZ.use0 (c_eqInt64S E E (by omega)) rfl rfl ?_
  simp
  refine CallZ.use0 (c_heldInt64S (marksI 1 E.length) 1 (by omega) (by simp [marksI]; omega) (by simp [marksI])) rfl rfl ?_
  simp [marksI_len, h3]

theorem l_FnExactLineOf (pargs : List PV) (h : fitsAll [.agg [.int .i64, .int .i64, .slc [.int .i64], .slc [.int .i64, .int .i64]], .one (.int .i64)] pargs) : HFn Try.prog 11 pargs [] (.bool true) [] := by
  obtain ⟨p, q, rfl, ⟨cs, rfl, h0⟩, hz⟩ := fitsAll_cons h
  obtain ⟨p2, q2, rfl, h1, hz2⟩ := fitsAll_cons hz
  obtain rfl := fitsAll_nil hz2
  obtain ⟨x, rfl, hx⟩ := Drum.fits h0
  obtain ⟨n, rfl, _⟩ := fits_int h1
  exact c_law_LineOf x n hx
end Go.Proofs.Ytnidojjahhhaaaa
