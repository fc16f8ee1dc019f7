/- Contracts: tunes, and what the functions of package laws do with them. No condition. -/
import Derived.Test.YteomgilojaibeaaCg
import Derived.Test.YteomgilojaibeaaTTone
namespace Go.Proofs.Yteomgilojaibeaa
open Go Go.Ab
set_option maxRecDepth 100000

structure Tune where
  name : List UInt8
  tones : List Tone
theorem Tune.eq_iff {a b : Tune} : a = b ↔ a.name = b.name ∧ a.tones = b.tones := by cases a; cases b; simp
instance : DecidableEq Tune := fun _ _ => decidable_of_iff _ Tune.eq_iff.symm
def Tune.cells (x : Tune) : List PV := [.str x.name, .sl 3 (Tone.rows x.tones)]
def Tune.sz (x : Tune) : Nat := x.name.length + Tone.szS x.tones
def Tune.wf (x : Tune) : Prop := x.name.length ≤ 9223372036854775807 ∧ x.tones.length ≤ 9223372036854775807 ∧ ∀ p ∈ x.tones, p.wf
theorem Tune.fits {cs : List PV} (h : fitsL [.str, .slc [.int .i64, .int .i64, .int .i64]] cs) : ∃ x : Tune, cs = x.cells ∧ x.wf := by
  obtain ⟨_, _, rfl, h0, h⟩ := fitsL_cons h
  obtain ⟨_, _, rfl, h1, h⟩ := fitsL_cons h
  obtain rfl := fitsL_nil h
  obtain ⟨v0, rfl, w0⟩ := fits_str h0
  obtain ⟨r1, rfl, l1, f1⟩ := fits_slc h1
  obtain ⟨v1, rfl, w1⟩ := Tone.fitsS f1
  rw [Tone.rows_len] at l1
  exact ⟨⟨v0, v1⟩, rfl, w0, l1, w1⟩
theorem Tune.len_of_sz {d : Tune} (h : d.sz ≤ 1048576) : d.tones.length ≤ 1048576 := by
  unfold Tune.sz Tone.szS at h
  omega
@[simp] def Tune.res (d : Tune) : PV := .agg [.str d.name, .sf 0 3]
@[simp] def Tune.objs (d : Tune) : Heap := [some (.arr 3 (Tone.rows d.tones))]

theorem c_szTune (x : Tune) (left : Nat) (hl : left ≤ 1048576) (hx : x.wf) : HFn Try.prog 10 [.agg x.cells, .int .i64 left] [] (.int .i64 (szR x.sz left)) [] := by
  obtain ⟨h0, h3, h4⟩ := hx
  refine hfn_intro hm Try.func10 (by kernel_rfl) rfl (by kernel_rfl) rfl ret0_ok ?_
  simp [Tune.cells]
  rw [w64 (n := (left : Int) - x.name.length) (by omega) (by omega)]
  refine ⟨fun h => by rw [szR_neg (by unfold Tune.sz; omega)], fun h => ?_⟩
  have e1 : (left : Int) - x.name.length = ((left - x.name.length : Nat) : Int) := by omega
  rw [e1]
  refine CallZ.use0 (c_szToneS x.tones _ (by omega) h3 h4) rfl rfl ?_
  simp
  refine ⟨fun h => ?_, fun h => ?_⟩
  · have := szR_lt h
    rw [szR_neg (by unfold Tune.sz; omega)]
  · have hh := szR_ge h
    rw [szR_pos hh, szR_pos (by unfold Tune.sz; omega)]
    unfold Tune.sz
    omega

theorem c_toTune (x : Tune) (h : x.sz ≤ 1048576) : HFn Try.prog 12 [.agg x.cells] [] (.agg [.str x.name, .sf 0 3]) [some (.arr 3 (Tone.rows x.tones))] := by
  refine hfn_intro hm Try.func12 (by kernel_rfl) rfl (by kernel_rfl) rfl (retN_ok (ρ := [3]) (φ := [])) ?_
  simp [Tune.cells]
  refine CallZ.use (c_toToneS x.tones (Tune.len_of_sz h)) rfl (.inr ⟨Tone.flat _, trivial⟩) rfl rfl ?_
  simp

theorem c_eqTune (a b : Tune) (hb : a.tones.length ≤ 9223372036854775807) : HFn Try.prog 15 [.agg a.cells, .agg b.cells] [] (.bool (decide (a = b))) [] := by
  refine hfn_intro hm Try.func15 (by kernel_rfl) rfl (by kernel_rfl) rfl ret0_ok ?_
  simp [Tune.cells, Tune.eq_iff]
  refine ⟨fun h e => absurd e h, fun h1 => ?_⟩
  refine CallZ.use0 (c_eqToneS a.tones b.tones hb) rfl rfl ?_
  simp [h1]

theorem c_markTune (n : List UInt8) (p : List Tone) (k : Int) (hk : 0 ≤ k) (ha : 3 * p.length + k ≤ 1000000000) : MFn Try.prog 16 [.agg [.str n, .sf 0 3], .int .i64 k] [some (.arr 3 (Tone.rows p))] [0]
    (.int .i64 (k + 3 * p.length)) [some (.arr 3 (Tone.rows (Tone.marks k p.length)))] := by
  refine mfn_intro [0] hm Try.func16 (by kernel_rfl) rfl (by kernel_rfl) rfl (retM_ok (ρ := [0]) (φ := [])) (by simp [Tone.rows, Tone.marks]) ?_
  simp
  refine CallZ.useK 0 (c_markToneS p k hk ha) rfl (by simp) rfl (by simp) rfl rfl ?_
  simp

theorem c_heldTune (a : Tune) (k : Int) (hk : 0 ≤ k) (ha : 3 * a.tones.length + k ≤ 1000000000) (h2 : a.tones = Tone.marks k a.tones.length) :
    HFn Try.prog 25 [.agg a.cells, .int .i64 k] [] (.int .i64 (k + 3 * a.tones.length)) [] := by
  refine hfn_intro hm Try.func25 (by kernel_rfl) rfl (by kernel_rfl) rfl ret0_ok ?_
  simp [Tune.cells]
  refine CallZ.use0 (c_heldToneS a.tones k hk ha h2) rfl rfl ?_
  simp
  omega

end Go.Proofs.Yteomgilojaibeaa
