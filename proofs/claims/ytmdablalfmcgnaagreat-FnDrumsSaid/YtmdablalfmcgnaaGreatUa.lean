/- Contracts: tunes, and what the functions of package laws do with them. No condition. -/
import Derived.Test.YtmdablalfmcgnaaGreatCg
import Derived.Test.YtmdablalfmcgnaaGreatTTone
namespace Go.Proofs.YtmdablalfmcgnaaGreat
open Go Go.Ab
set_option maxRecDepth 100000

structure Tune where
  name : List UInt8
  tones : List Tone
theorem Tune.eq_iff {a b : Tune} : a = b ↔ a.name = b.name ∧ a.tones = b.tones := by cases a; cases b; simp
instance : DecidableEq Tune := fun _ _ => decidable_of_iff _ Tune.eq_iff.symm
def Tune.cells (x : Tune) : List PV := [.str x.name, .sl 3 (Tone.rows x.tones)]
def Tune.sz (x : Tune) : Nat := x.name.length + Tone.szS x.tones
def Tune.wf (x : Tune) : Prop := x.name.length ≤ 9223372036854775807 ∧ x.tones.length ≤ 9223372036854775807 ∧ ∀ p ∈ x.tones, p.wf
theorem Tune.fits {cs : List PV} (h : fitsL [.str, .slc [.int .i64, .int .i64, .int .i64]] cs) : ∃ x : Tune, cs = x.cells ∧ x.wf := by
  obtain ⟨_, _, rfl, h0, h⟩ := fitsL_cons h
  obtain ⟨_, _, rfl, h1, h⟩ := fitsL_cons h
  obtain rfl := fitsL_nil h
  obtain ⟨v0, rfl, w0⟩ := fits_str h0
  obtain ⟨r1, rfl, l1, f1⟩ := fits_slc h1
  obtain ⟨v1, rfl, w1⟩ := Tone.fitsS f1
  rw [Tone.rows_len] at l1
  exact ⟨⟨v0, v1⟩, rfl, w0, l1, w1⟩
theorem Tune.len_of_sz {d : Tune} (h : d.sz ≤ 1048576) : d.tones.length ≤ 1048576 := by
  unfold Tune.sz Tone.szS at h
  omega
@[simp] def Tune.res (d : Tune) : PV := .agg [.str d.name, .sf 0 3]
@[simp] def Tune.objs (d : Tune) : Heap := [some (.arr 3 (Tone.rows d.tones))]

end Go.Proofs.YtmdablalfmcgnaaGreat
