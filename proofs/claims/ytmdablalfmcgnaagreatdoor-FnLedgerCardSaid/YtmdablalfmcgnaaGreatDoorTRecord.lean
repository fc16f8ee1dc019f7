/- The type Record as plain data, and what the functions of package laws do with it. No condition. -/
import Derived.Test.YtmdablalfmcgnaaGreatDoorCd
namespace Go.Proofs.YtmdablalfmcgnaaGreatDoor
open Go Go.Ab
set_option maxRecDepth 100000

structure Record where
  kind : Int
  key : List UInt8
  text : List UInt8
theorem Record.eq_iff {a b : Record} : a = b ↔ a.kind = b.kind ∧ a.key = b.key ∧ a.text = b.text := by cases a; cases b; simp
instance : DecidableEq Record := fun _ _ => decidable_of_iff _ Record.eq_iff.symm
def Record.cells (x : Record) : List PV := [.int .i64 x.kind, .str x.key, .str x.text]
def Record.rows (l : List Record) : List (List PV) := l.map Record.cells
/-- What the laws count of a value. -/
def Record.sz (x : Record) : Nat := x.key.length + x.text.length
def Record.szS (l : List Record) : Nat := l.length + (l.map Record.sz).sum
/-- The values that arguments have. -/
def Record.wf (x : Record) : Prop := -9223372036854775808 ≤ x.kind ∧ x.kind ≤ 9223372036854775807 ∧ x.key.length ≤ 9223372036854775807 ∧ x.text.length ≤ 9223372036854775807
theorem Record.fits {cs : List PV} (h : fitsL [.int .i64, .str, .str] cs) : ∃ x : Record, cs = x.cells ∧ x.wf := by
  obtain ⟨_, _, rfl, h0, h⟩ := fitsL_cons h
  obtain ⟨_, _, rfl, h1, h⟩ := fitsL_cons h
  obtain ⟨_, _, rfl, h2, h⟩ := fitsL_cons h
  obtain rfl := fitsL_nil h
  obtain ⟨v0, rfl, w0⟩ := fits_int h0
  obtain ⟨v1, rfl, w1⟩ := fits_str h1
  obtain ⟨v2, rfl, w2⟩ := fits_str h2
  exact ⟨⟨v0, v1, v2⟩, rfl, (lit64 w0).1, (lit64 w0).2, w1, w2⟩
theorem Record.fitsS {rows : List (List PV)} (h : ∀ r ∈ rows, fitsL [.int .i64, .str, .str] r) : ∃ l : List Record, rows = Record.rows l ∧ ∀ x ∈ l, x.wf := list_of fun r hr => Record.fits (h r hr)
theorem Record.flat (l : List Record) : flatRows (Record.rows l) := fun r hr c hc => by
  obtain ⟨x, _, rfl⟩ := List.mem_map.1 hr
  simp only [Record.cells, List.mem_cons, List.not_mem_nil, or_false] at hc
  rcases hc with rfl | rfl | rfl <;> rfl
theorem Record.rows_len (l : List Record) : (Record.rows l).length = l.length := by simp [Record.rows]
theorem Record.one (l : List Record) : Go.Ab.rowsOne (Record.rows l) := fun r hr => by obtain ⟨x, _, rfl⟩ := List.mem_map.1 hr; rfl
theorem c_EqualRecord (a b : List Record) (ha : a.length ≤ 9223372036854775807) : HFn Tryz.prog 51 [.sl 3 (Record.rows a), .sl 3 (Record.rows b)] [] (.bool (decide (a = b))) [] := by
  refine hfn_intro hm Tryz.func51 (by kernel_rfl) rfl (by kernel_rfl) rfl ret0_ok ?_
  simp [Record.rows]
  refine ⟨fun h => ?_, fun h => ?_⟩
  · exact fun e => h (by rw [e])
  · refine loop_upto hm a.length (fun i => ⟨[(0, .sl 3 (Record.rows a)), (1, .sl 3 (Record.rows b)), (12, .int .i64 a.length), (13, .int .i64 i)], []⟩) (fun i => a.take i = b.take i) (by kernel_rfl) ?_ (by simp) (fun i hi hI => ?_) (fun hI => ?_)
    · exact Wk.weak (ρ := []) (φ := []) (by simp [Record.rows])
    · have hl : a.length = b.length := by omega
      have ea := List.getElem?_eq_getElem hi
      have hi' : i < b.length := by omega
      have eb := List.getElem?_eq_getElem hi'
      simp [Record.rows, Record.cells, hi, hi']
      refine ⟨fun h e => ?_, fun q0 q1 q2 => ⟨take_succ_eq hI ea eb (Record.eq_iff.2 ⟨q0, q1, q2⟩), ?_⟩⟩
      · subst e; simp at h
      · refine Wk.weak (ρ := []) (φ := []) ?_
        simp
        exact w64 (by omega) (by omega)
    · simp [Record.rows]
      exact eq_of_take hI (by omega)
end Go.Proofs.YtmdablalfmcgnaaGreatDoor
