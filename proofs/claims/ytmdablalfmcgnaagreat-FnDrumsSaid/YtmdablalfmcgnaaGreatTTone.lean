/- The type Tone as plain data, and what the functions of package laws do with it. No condition. -/
import Derived.Test.YtmdablalfmcgnaaGreatCd
namespace Go.Proofs.YtmdablalfmcgnaaGreat
open Go Go.Ab
set_option maxRecDepth 100000

structure Tone where
  note : Int
  start : Int
  length : Int
theorem Tone.eq_iff {a b : Tone} : a = b ↔ a.note = b.note ∧ a.start = b.start ∧ a.length = b.length := by cases a; cases b; simp
instance : DecidableEq Tone := fun _ _ => decidable_of_iff _ Tone.eq_iff.symm
def Tone.cells (x : Tone) : List PV := [.int .i64 x.note, .int .i64 x.start, .int .i64 x.length]
def Tone.rows (l : List Tone) : List (List PV) := l.map Tone.cells
/-- What the laws count of a value. -/
def Tone.sz (_ : Tone) : Nat := 0
def Tone.szS (l : List Tone) : Nat := l.length + (l.map Tone.sz).sum
/-- The values that arguments have. -/
def Tone.wf (x : Tone) : Prop := -9223372036854775808 ≤ x.note ∧ x.note ≤ 9223372036854775807 ∧ -9223372036854775808 ≤ x.start ∧ x.start ≤ 9223372036854775807 ∧ -9223372036854775808 ≤ x.length ∧ x.length ≤ 9223372036854775807
theorem Tone.fits {cs : List PV} (h : fitsL [.int .i64, .int .i64, .int .i64] cs) : ∃ x : Tone, cs = x.cells ∧ x.wf := by
  obtain ⟨_, _, rfl, h0, h⟩ := fitsL_cons h
  obtain ⟨_, _, rfl, h1, h⟩ := fitsL_cons h
  obtain ⟨_, _, rfl, h2, h⟩ := fitsL_cons h
  obtain rfl := fitsL_nil h
  obtain ⟨v0, rfl, w0⟩ := fits_int h0
  obtain ⟨v1, rfl, w1⟩ := fits_int h1
  obtain ⟨v2, rfl, w2⟩ := fits_int h2
  exact ⟨⟨v0, v1, v2⟩, rfl, (lit64 w0).1, (lit64 w0).2, (lit64 w1).1, (lit64 w1).2, (lit64 w2).1, (lit64 w2).2⟩
theorem Tone.fitsS {rows : List (List PV)} (h : ∀ r ∈ rows, fitsL [.int .i64, .int .i64, .int .i64] r) : ∃ l : List Tone, rows = Tone.rows l ∧ ∀ x ∈ l, x.wf := list_of fun r hr => Tone.fits (h r hr)
theorem Tone.flat (l : List Tone) : flatRows (Tone.rows l) := fun r hr c hc => by
  obtain ⟨x, _, rfl⟩ := List.mem_map.1 hr
  simp only [Tone.cells, List.mem_cons, List.not_mem_nil, or_false] at hc
  rcases hc with rfl | rfl | rfl <;> rfl
theorem Tone.rows_len (l : List Tone) : (Tone.rows l).length = l.length := by simp [Tone.rows]
theorem Tone.one (l : List Tone) : Go.Ab.rowsOne (Tone.rows l) := fun r hr => by obtain ⟨x, _, rfl⟩ := List.mem_map.1 hr; rfl
end Go.Proofs.YtmdablalfmcgnaaGreat
