/- The type Pair as plain data, and what the functions of package laws do with it. No condition. -/
import Derived.Test.YtnfjkfjbhdlphaaGreatCd
import Derived.Test.YtnfjkfjbhdlphaaGreatKd
namespace Go.Proofs.YtnfjkfjbhdlphaaGreat
open Go Go.Ab

set_option maxRecDepth 100000

structure Pair where
  key : List UInt8
  text : List UInt8
theorem Pair.eq_iff {a b : Pair} : a = b ↔ a.key = b.key ∧ a.text = b.text := by cases a; cases b; simp
instance : DecidableEq Pair := fun _ _ => decidable_of_iff _ Pair.eq_iff.symm
def Pair.cells (x : Pair) : List PV := [.str x.key, .str x.text]
def Pair.rows (l : List Pair) : List (List PV) := l.map Pair.cells
/-- What the laws count of a value. -/
def Pair.sz (x : Pair) : Nat := x.key.length + x.text.length
def Pair.szS (l : List Pair) : Nat := l.length + (l.map Pair.sz).sum
/-- The values that arguments have. -/
def Pair.wf (x : Pair) : Prop := x.key.length ≤ 9223372036854775807 ∧ x.text.length ≤ 9223372036854775807
theorem Pair.fits {cs : List PV} (h : fitsL [.str, .str] cs) : ∃ x : Pair, cs = x.cells ∧ x.wf := by
  obtain ⟨_, _, rfl, h0, h⟩ := fitsL_cons h
  obtain ⟨_, _, rfl, h1, h⟩ := fitsL_cons h
  obtain rfl := fitsL_nil h
  obtain ⟨v0, rfl, w0⟩ := fits_str h0
  obtain ⟨v1, rfl, w1⟩ := fits_str h1
  exact ⟨⟨v0, v1⟩, rfl, w0, w1⟩
theorem Pair.fitsS {rows : List (List PV)} (h : ∀ r ∈ rows, fitsL [.str, .str] r) : ∃ l : List Pair, rows = Pair.rows l ∧ ∀ x ∈ l, x.wf := list_of fun r hr => Pair.fits (h r hr)
theorem Pair.flat (l : List Pair) : flatRows (Pair.rows l) := fun r hr c hc => by
  obtain ⟨x, _, rfl⟩ := List.mem_map.1 hr
  simp only [Pair.cells, List.mem_cons, List.not_mem_nil, or_false] at hc
  rcases hc with rfl | rfl <;> rfl
theorem Pair.rows_len (l : List Pair) : (Pair.rows l).length = l.length := by simp [Pair.rows]
theorem Pair.one (l : List Pair) : Go.Ab.rowsOne (Pair.rows l) := fun r hr => by obtain ⟨x, _, rfl⟩ := List.mem_map.1 hr; rfl
end Go.Proofs.YtnfjkfjbhdlphaaGreat
