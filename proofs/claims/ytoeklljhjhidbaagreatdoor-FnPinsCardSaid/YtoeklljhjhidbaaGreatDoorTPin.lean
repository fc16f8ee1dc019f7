/- The type Pin as plain data, and what the functions of package laws do with it. No condition. -/
import Derived.Test.YtoeklljhjhidbaaGreatDoorCd
namespace Go.Proofs.YtoeklljhjhidbaaGreatDoor
open Go Go.Ab
set_option maxRecDepth 100000

structure Pin where
  step : Int
  hammer : Int
theorem Pin.eq_iff {a b : Pin} : a = b ↔ a.step = b.step ∧ a.hammer = b.hammer := by cases a; cases b; simp
instance : DecidableEq Pin := fun _ _ => decidable_of_iff _ Pin.eq_iff.symm
def Pin.cells (x : Pin) : List PV := [.int .i64 x.step, .int .i64 x.hammer]
def Pin.rows (l : List Pin) : List (List PV) := l.map Pin.cells
/-- What the laws count of a value. -/
def Pin.sz (_ : Pin) : Nat := 0
def Pin.szS (l : List Pin) : Nat := l.length + (l.map Pin.sz).sum
/-- The values that arguments have. -/
def Pin.wf (x : Pin) : Prop := -9223372036854775808 ≤ x.step ∧ x.step ≤ 9223372036854775807 ∧ -9223372036854775808 ≤ x.hammer ∧ x.hammer ≤ 9223372036854775807
theorem Pin.fits {cs : List PV} (h : fitsL [.int .i64, .int .i64] cs) : ∃ x : Pin, cs = x.cells ∧ x.wf := by
  obtain ⟨_, _, rfl, h0, h⟩ := fitsL_cons h
  obtain ⟨_, _, rfl, h1, h⟩ := fitsL_cons h
  obtain rfl := fitsL_nil h
  obtain ⟨v0, rfl, w0⟩ := fits_int h0
  obtain ⟨v1, rfl, w1⟩ := fits_int h1
  exact ⟨⟨v0, v1⟩, rfl, (lit64 w0).1, (lit64 w0).2, (lit64 w1).1, (lit64 w1).2⟩
theorem Pin.fitsS {rows : List (List PV)} (h : ∀ r ∈ rows, fitsL [.int .i64, .int .i64] r) : ∃ l : List Pin, rows = Pin.rows l ∧ ∀ x ∈ l, x.wf := list_of fun r hr => Pin.fits (h r hr)
theorem Pin.flat (l : List Pin) : flatRows (Pin.rows l) := fun r hr c hc => by
  obtain ⟨x, _, rfl⟩ := List.mem_map.1 hr
  simp only [Pin.cells, List.mem_cons, List.not_mem_nil, or_false] at hc
  rcases hc with rfl | rfl <;> rfl
theorem Pin.rows_len (l : List Pin) : (Pin.rows l).length = l.length := by simp [Pin.rows]
theorem Pin.one (l : List Pin) : Go.Ab.rowsOne (Pin.rows l) := fun r hr => by obtain ⟨x, _, rfl⟩ := List.mem_map.1 hr; rfl
theorem c_EqualPin [Go.Ab.Drwn] (a b : List Pin) (ha : a.length ≤ 9223372036854775807) : HFn Tryz.prog 34 [.sl 2 (Pin.rows a), .sl 2 (Pin.rows b)] [] (.bool (decide (a = b))) [] := by
  refine hfn_intro hm Tryz.func34 (by kernel_rfl) rfl (by kernel_rfl) rfl ret0_ok ?_
  simp [Pin.rows]
  refine ⟨fun h => ?_, fun h => ?_⟩
  · exact fun e => h (by rw [e])
  · refine loop_upto hm a.length (fun i => ⟨[(0, .sl 2 (Pin.rows a)), (1, .sl 2 (Pin.rows b)), (12, .int .i64 a.length), (13, .int .i64 i)], []⟩) (fun i => a.take i = b.take i) (by kernel_rfl) ?_ (by simp) (fun i hi hI => ?_) (fun hI => ?_)
    · exact Wk.weak (ρ := []) (φ := []) (by simp [Pin.rows])
    · have hl : a.length = b.length := by omega
      have ea := List.getElem?_eq_getElem hi
      have hi' : i < b.length := by omega
      have eb := List.getElem?_eq_getElem hi'
      simp [Pin.rows, Pin.cells, hi, hi']
      refine ⟨fun h e => ?_, fun q0 q1 => ⟨take_succ_eq hI ea eb (Pin.eq_iff.2 ⟨q0, q1⟩), ?_⟩⟩
      · subst e; simp at h
      · refine Wk.weak (ρ := []) (φ := []) ?_
        simp
        exact w64 (by omega) (by omega)
    · simp [Pin.rows]
      exact eq_of_take hI (by omega)
end Go.Proofs.YtoeklljhjhidbaaGreatDoor
