/- Contracts: drums. -/
import Derived.Test.YtoeklljhjhidbaaGreatDoorCg
import Derived.Test.YtoeklljhjhidbaaGreatDoorTPin
import Derived.Test.YtoeklljhjhidbaaGreatDoorTI
namespace Go.Proofs.YtoeklljhjhidbaaGreatDoor
open Go Go.Ab
set_option maxRecDepth 100000

structure Drum where
  steps : Int
  rest : Int
  notes : List Int
  pins : List Pin
theorem Drum.eq_iff {a b : Drum} : a = b ↔ a.steps = b.steps ∧ a.rest = b.rest ∧ a.notes = b.notes ∧ a.pins = b.pins := by cases a; cases b; simp
instance : DecidableEq Drum := fun _ _ => decidable_of_iff _ Drum.eq_iff.symm
def Drum.cells (x : Drum) : List PV := [.int .i64 x.steps, .int .i64 x.rest, .sl 1 (intRows x.notes), .sl 2 (Pin.rows x.pins)]
def Drum.sz (x : Drum) : Nat := x.notes.length + Pin.szS x.pins
def Drum.wf (x : Drum) : Prop := I64 x.steps ∧ I64 x.rest ∧ x.notes.length ≤ 9223372036854775807 ∧ (∀ n ∈ x.notes, I64 n) ∧ x.pins.length ≤ 9223372036854775807 ∧ ∀ p ∈ x.pins, p.wf
theorem Drum.fits {cs : List PV} (h : fitsL [.int .i64, .int .i64, .slc [.int .i64], .slc [.int .i64, .int .i64]] cs) : ∃ x : Drum, cs = x.cells ∧ x.wf := by
  obtain ⟨_, _, rfl, h0, h⟩ := fitsL_cons h
  obtain ⟨_, _, rfl, h1, h⟩ := fitsL_cons h
  obtain ⟨_, _, rfl, h2, h⟩ := fitsL_cons h
  obtain ⟨_, _, rfl, h3, h⟩ := fitsL_cons h
  obtain rfl := fitsL_nil h
  obtain ⟨v0, rfl, w0⟩ := fits_int h0
  obtain ⟨v1, rfl, w1⟩ := fits_int h1
  obtain ⟨r2, rfl, l2, f2⟩ := fits_slc h2
  obtain ⟨v2, rfl, w2⟩ := fits_ints f2
  obtain ⟨r3, rfl, l3, f3⟩ := fits_slc h3
  obtain ⟨v3, rfl, w3⟩ := Pin.fitsS f3
  rw [intRows_len] at l2
  rw [Pin.rows_len] at l3
  exact ⟨⟨v0, v1, v2, v3⟩, rfl, lit64 w0, lit64 w1, l2, w2, l3, w3⟩

theorem c_impl_SameDrum [Go.Ab.Drwn] (a b : Drum) (ha : a.notes.length ≤ 9223372036854775807) (hb : a.pins.length ≤ 9223372036854775807) : HFn Tryz.prog 10 [.agg a.cells, .agg b.cells] [] (.bool (decide (a = b))) [] := by
  refine hfn_intro hm Tryz.func10 (by kernel_rfl) rfl (by kernel_rfl) rfl ret0_ok ?_
  simp [Drum.cells, Drum.eq_iff]
  refine ⟨fun h1 h2 => ⟨h1, h2⟩, ?_⟩
  refine CallY.use (fun _ => ⟨rfl, c_EqualInt a.notes b.notes ha⟩) rfl rfl ?_
  simp
  refine ⟨fun h1 h2 h3 => ⟨⟨h1, h2⟩, h3⟩, ?_⟩
  refine CallY.use (fun _ => ⟨rfl, c_EqualPin a.pins b.pins hb⟩) rfl rfl ?_
  simp [Bool.and_assoc]

end Go.Proofs.YtoeklljhjhidbaaGreatDoor
