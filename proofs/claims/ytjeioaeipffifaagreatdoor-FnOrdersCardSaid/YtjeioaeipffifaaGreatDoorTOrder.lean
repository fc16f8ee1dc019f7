/- The type Order as plain data, and what the functions of package laws do with it. No condition. -/
import Derived.Test.YtjeioaeipffifaaGreatDoorCd
namespace Go.Proofs.YtjeioaeipffifaaGreatDoor
open Go Go.Ab
set_option maxRecDepth 100000

structure Order where
  id : List UInt8
  mass : Int
  note : Int
  days : Int
  due : Int
theorem Order.eq_iff {a b : Order} : a = b ↔ a.id = b.id ∧ a.mass = b.mass ∧ a.note = b.note ∧ a.days = b.days ∧ a.due = b.due := by cases a; cases b; simp
instance : DecidableEq Order := fun _ _ => decidable_of_iff _ Order.eq_iff.symm
def Order.cells (x : Order) : List PV := [.str x.id, .int .i64 x.mass, .int .i64 x.note, .int .i64 x.days, .int .i64 x.due]
def Order.rows (l : List Order) : List (List PV) := l.map Order.cells
/-- What the laws count of a value. -/
def Order.sz (x : Order) : Nat := x.id.length
def Order.szS (l : List Order) : Nat := l.length + (l.map Order.sz).sum
/-- The values that arguments have. -/
def Order.wf (x : Order) : Prop := x.id.length ≤ 9223372036854775807 ∧ -9223372036854775808 ≤ x.mass ∧ x.mass ≤ 9223372036854775807 ∧ -9223372036854775808 ≤ x.note ∧ x.note ≤ 9223372036854775807 ∧ -9223372036854775808 ≤ x.days ∧ x.days ≤ 9223372036854775807 ∧ -9223372036854775808 ≤ x.due ∧ x.due ≤ 9223372036854775807
theorem Order.fits {cs : List PV} (h : fitsL [.str, .int .i64, .int .i64, .int .i64, .int .i64] cs) : ∃ x : Order, cs = x.cells ∧ x.wf := by
  obtain ⟨_, _, rfl, h0, h⟩ := fitsL_cons h
  obtain ⟨_, _, rfl, h1, h⟩ := fitsL_cons h
  obtain ⟨_, _, rfl, h2, h⟩ := fitsL_cons h
  obtain ⟨_, _, rfl, h3, h⟩ := fitsL_cons h
  obtain ⟨_, _, rfl, h4, h⟩ := fitsL_cons h
  obtain rfl := fitsL_nil h
  obtain ⟨v0, rfl, w0⟩ := fits_str h0
  obtain ⟨v1, rfl, w1⟩ := fits_int h1
  obtain ⟨v2, rfl, w2⟩ := fits_int h2
  obtain ⟨v3, rfl, w3⟩ := fits_int h3
  obtain ⟨v4, rfl, w4⟩ := fits_int h4
  exact ⟨⟨v0, v1, v2, v3, v4⟩, rfl, w0, (lit64 w1).1, (lit64 w1).2, (lit64 w2).1, (lit64 w2).2, (lit64 w3).1, (lit64 w3).2, (lit64 w4).1, (lit64 w4).2⟩
theorem Order.fitsS {rows : List (List PV)} (h : ∀ r ∈ rows, fitsL [.str, .int .i64, .int .i64, .int .i64, .int .i64] r) : ∃ l : List Order, rows = Order.rows l ∧ ∀ x ∈ l, x.wf := list_of fun r hr => Order.fits (h r hr)
theorem Order.flat (l : List Order) : flatRows (Order.rows l) := fun r hr c hc => by
  obtain ⟨x, _, rfl⟩ := List.mem_map.1 hr
  simp only [Order.cells, List.mem_cons, List.not_mem_nil, or_false] at hc
  rcases hc with rfl | rfl | rfl | rfl | rfl <;> rfl
theorem Order.rows_len (l : List Order) : (Order.rows l).length = l.length := by simp [Order.rows]
end Go.Proofs.YtjeioaeipffifaaGreatDoor
