/- The type Pin as plain data, and what the functions of package laws do with it. No condition. -/
import Derived.Test.YtjmoilnklaeacaaGreatDoorCd
namespace Go.Proofs.YtjmoilnklaeacaaGreatDoor
open Go Go.Ab
set_option maxRecDepth 100000

structure Pin where
  step : Int
  hammer : Int
theorem Pin.eq_iff {a b : Pin} : a = b ↔ a.step = b.step ∧ a.hammer = b.hammer := by cases a; cases b; simp
instance : DecidableEq Pin := fun _ _ => decidable_of_iff _ Pin.eq_iff.symm
def Pin.cells (x : Pin) : List PV := [.int .i64 x.step, .int .i64 x.hammer]
def Pin.rows (l : List Pin) : List (List PV) := l.map Pin.cells
/-- What the laws count of a value. -/
def Pin.sz (_ : Pin) : Nat := 0
def Pin.szS (l : List Pin) : Nat := l.length + (l.map Pin.sz).sum
/-- The values that arguments have. -/
def Pin.wf (x : Pin) : Prop := -9223372036854775808 ≤ x.step ∧ x.step ≤ 9223372036854775807 ∧ -9223372036854775808 ≤ x.hammer ∧ x.hammer ≤ 9223372036854775807
theorem Pin.fits {cs : List PV} (h : fitsL [.int .i64, .int .i64] cs) : ∃ x : Pin, cs = x.cells ∧ x.wf := by
  obtain ⟨_, _, rfl, h0, h⟩ := fitsL_cons h
  obtain ⟨_, _, rfl, h1, h⟩ := fitsL_cons h
  obtain rfl := fitsL_nil h
  obtain ⟨v0, rfl, w0⟩ := fits_int h0
  obtain ⟨v1, rfl, w1⟩ := fits_int h1
  exact ⟨⟨v0, v1⟩, rfl, (lit64 w0).1, (lit64 w0).2, (lit64 w1).1, (lit64 w1).2⟩
theorem Pin.fitsS {rows : List (List PV)} (h : ∀ r ∈ rows, fitsL [.int .i64, .int .i64] r) : ∃ l : List Pin, rows = Pin.rows l ∧ ∀ x ∈ l, x.wf := list_of fun r hr => Pin.fits (h r hr)
theorem Pin.flat (l : List Pin) : flatRows (Pin.rows l) := fun r hr c hc => by
  obtain ⟨x, _, rfl⟩ := List.mem_map.1 hr
  simp only [Pin.cells, List.mem_cons, List.not_mem_nil, or_false] at hc
  rcases hc with rfl | rfl <;> rfl
theorem Pin.rows_len (l : List Pin) : (Pin.rows l).length = l.length := by simp [Pin.rows]
theorem c_eqPin (a b : Pin) : HFn Tryz.prog 98 [.agg a.cells, .agg b.cells] [] (.bool (decide (a = b))) [] := by
  refine hfn_intro hm Tryz.func98 (by kernel_rfl) rfl (by kernel_rfl) rfl ret0_ok ?_
  simp [Pin.cells, Pin.eq_iff]
  grind
theorem c_eqPinS (a b : List Pin) (ha : a.length ≤ 9223372036854775807) : HFn Tryz.prog 51 [.sl 2 (Pin.rows a), .sl 2 (Pin.rows b)] [] (.bool (decide (a = b))) [] := by
  refine hfn_intro hm Tryz.func51 (by kernel_rfl) rfl (by kernel_rfl) rfl ret0_ok ?_
  simp [Pin.rows]
  refine ⟨fun h => ?_, fun h => ?_⟩
  · exact fun e => h (by rw [e])
  · refine loop_upto hm a.length (fun i => ⟨[(0, .sl 2 (Pin.rows a)), (1, .sl 2 (Pin.rows b)), (5, .int .i64 i)], []⟩) (fun i => a.take i = b.take i) (by kernel_rfl) ?_ (by simp) (fun i hi hI => ?_) (fun hI => ?_)
    · exact Wk.weak (ρ := []) (φ := []) (by simp [Pin.rows])
    · have hl : a.length = b.length := by omega
      have ea := List.getElem?_eq_getElem hi
      have hi' : i < b.length := by omega
      have eb := List.getElem?_eq_getElem hi'
      simp [Pin.rows, hi, hi']
      refine CallZ.use0 (c_eqPin a[i] b[i]) rfl rfl ?_
      simp
      refine ⟨fun h e => h (by simp [e]), fun h => ⟨take_succ_eq hI ea eb h, ?_⟩⟩
      refine Wk.weak (ρ := []) (φ := []) ?_
      simp
      exact w64 (by omega) (by omega)
    · simp [Pin.rows]
      exact eq_of_take hI (by omega)
/-- A value that the laws have marked, from number k on. -/
def Pin.mark (k : Int) : Pin := ⟨k, k + 1⟩
def Pin.marks (k : Int) (n : Nat) : List Pin := (List.range n).map fun i : Nat => Pin.mark (k + 2 * i)
theorem Pin.marks_len (k : Int) (n : Nat) : (Pin.marks k n).length = n := by simp [Pin.marks]
theorem c_markPinS (l : List Pin) (k : Int) (hk : 0 ≤ k) (ha : 2 * l.length + k ≤ 1000000000) : MFn Tryz.prog 53 [.sf 0 2, .int .i64 k] [some (.arr 2 (Pin.rows l))] [0] (.int .i64 (k + 2 * l.length)) [some (.arr 2 (Pin.rows (Pin.marks k l.length)))] := by
  refine mfn_intro [0] hm Tryz.func53 (by kernel_rfl) rfl (by kernel_rfl) rfl (retM_ok (ρ := [0]) (φ := [])) (by simp [Pin.rows, Pin.marks]) ?_
  simp
  refine loop_upto hm l.length (fun i => ⟨[(0, .sf 0 2), (1, .int .i64 (k + 2 * i)), (5, .int .i64 i), (27, .own 0)], [some (.arr 2 (Pin.rows (Pin.marks k i ++ l.drop i)))]⟩) (fun _ => True) (by kernel_rfl) ?_ trivial (fun i hi _ => ?_) (fun _ => ?_)
  · refine Wk.weak (ρ := [0]) (φ := []) ?_
    simp [Pin.rows, Pin.marks]
  · obtain ⟨X, hX, hl, hg⟩ := marked (fun j : Nat => Pin.mark (k + 2 * j)) l hi
    rw [show Pin.marks k i ++ l.drop i = X from hX]
    simp [Pin.rows, Pin.cells, hl, hg, hi]
    rw [w64 (n := k + 2 * (i : Int) + 1) (by omega) (by omega)]
    rw [w64 (n := k + 2 * (i : Int) + 1 + 1) (by omega) (by omega)]
    refine Wk.weak (ρ := [0]) (φ := []) ?_
    simp
    rw [w64 (by omega) (by omega), ← hX]
    refine ⟨by omega, ?_⟩
    exact marked_next Pin.cells (fun j : Nat => Pin.mark (k + 2 * j)) l hi
  · simp [Pin.rows, Pin.marks]
theorem c_heldPinS (a : List Pin) (k : Int) (hk : 0 ≤ k) (ha : 2 * a.length + k ≤ 1000000000) (h : a = Pin.marks k a.length) : HFn Tryz.prog 55 [.sl 2 (Pin.rows a), .int .i64 k] [] (.int .i64 (k + 2 * a.length)) [] := by
  refine hfn_intro hm Tryz.func55 (by kernel_rfl) rfl (by kernel_rfl) rfl ret0_ok ?_
  simp [Pin.rows]
  refine loop_upto hm a.length (fun i => ⟨[(0, .sl 2 (Pin.rows a)), (1, .int .i64 (k + 2 * i)), (5, .int .i64 i)], []⟩) (fun _ => True) (by kernel_rfl) ?_ trivial (fun i hi _ => ?_) (fun _ => ?_)
  · exact Wk.weak (ρ := []) (φ := []) (by simp [Pin.rows])
  · have e : a[i] = Pin.mark (k + 2 * i) := by
      have h1 := List.getElem?_eq_getElem hi
      have h2 : a[i]? = (Pin.marks k a.length)[i]? := by rw [← h]
      rw [h1] at h2
      simpa [Pin.marks, hi] using h2
    have e1 : IntKind.i64.wrap (k + 2 * (i : Int) + 1) = k + 2 * (i : Int) + 1 := w64 (by omega) (by omega)
    have e2 : IntKind.i64.wrap (k + 2 * (i : Int) + 1 + 1) = k + 2 * (i : Int) + 1 + 1 := w64 (by omega) (by omega)
    have ei : IntKind.i64.wrap ((i : Int) + 1) = i + 1 := w64 (by omega) (by omega)
    simp [Pin.rows, hi, e, Pin.cells, Pin.mark, ei, e1, e2]
    refine Wk.weak (ρ := []) (φ := []) ?_
    simp
    omega
  · simp [Pin.rows]
end Go.Proofs.YtjmoilnklaeacaaGreatDoor
