/- The type Pin as plain data, and what the functions of package laws do with it. No condition. -/
import Derived.Test.YtmdablalfmcgnaaGreatCd
namespace Go.Proofs.YtmdablalfmcgnaaGreat
open Go Go.Ab
set_option maxRecDepth 100000

structure Pin where
  step : Int
  hammer : Int
theorem Pin.eq_iff {a b : Pin} : a = b ↔ a.step = b.step ∧ a.hammer = b.hammer := by cases a; cases b; simp
instance : DecidableEq Pin := fun _ _ => decidable_of_iff _ Pin.eq_iff.symm
def Pin.cells (x : Pin) : List PV := [.int .i64 x.step, .int .i64 x.hammer]
def Pin.rows (l : List Pin) : List (List PV) := l.map Pin.cells
/-- What the laws count of a value. -/
def Pin.sz (_ : Pin) : Nat := 0
def Pin.szS (l : List Pin) : Nat := l.length + (l.map Pin.sz).sum
/-- The values that arguments have. -/
def Pin.wf (x : Pin) : Prop := -9223372036854775808 ≤ x.step ∧ x.step ≤ 9223372036854775807 ∧ -9223372036854775808 ≤ x.hammer ∧ x.hammer ≤ 9223372036854775807
theorem Pin.fits {cs : List PV} (h : fitsL [.int .i64, .int .i64] cs) : ∃ x : Pin, cs = x.cells ∧ x.wf := by
  obtain ⟨_, _, rfl, h0, h⟩ := fitsL_cons h
  obtain ⟨_, _, rfl, h1, h⟩ := fitsL_cons h
  obtain rfl := fitsL_nil h
  obtain ⟨v0, rfl, w0⟩ := fits_int h0
  obtain ⟨v1, rfl, w1⟩ := fits_int h1
  exact ⟨⟨v0, v1⟩, rfl, (lit64 w0).1, (lit64 w0).2, (lit64 w1).1, (lit64 w1).2⟩
theorem Pin.fitsS {rows : List (List PV)} (h : ∀ r ∈ rows, fitsL [.int .i64, .int .i64] r) : ∃ l : List Pin, rows = Pin.rows l ∧ ∀ x ∈ l, x.wf := list_of fun r hr => Pin.fits (h r hr)
theorem Pin.flat (l : List Pin) : flatRows (Pin.rows l) := fun r hr c hc => by
  obtain ⟨x, _, rfl⟩ := List.mem_map.1 hr
  simp only [Pin.cells, List.mem_cons, List.not_mem_nil, or_false] at hc
  rcases hc with rfl | rfl <;> rfl
theorem Pin.rows_len (l : List Pin) : (Pin.rows l).length = l.length := by simp [Pin.rows]
theorem Pin.one (l : List Pin) : Go.Ab.rowsOne (Pin.rows l) := fun r hr => by obtain ⟨x, _, rfl⟩ := List.mem_map.1 hr; rfl
end Go.Proofs.YtmdablalfmcgnaaGreat
