/- The type Swing as plain data, and what the functions of package laws do with it. No condition. -/
import Derived.Test.YtmdablalfmcgnaaDoorCd
namespace Go.Proofs.YtmdablalfmcgnaaDoor
open Go Go.Ab
set_option maxRecDepth 100000

structure Swing where
  bell : List UInt8
  rate : Int
  force : Int
theorem Swing.eq_iff {a b : Swing} : a = b ↔ a.bell = b.bell ∧ a.rate = b.rate ∧ a.force = b.force := by cases a; cases b; simp
instance : DecidableEq Swing := fun _ _ => decidable_of_iff _ Swing.eq_iff.symm
def Swing.cells (x : Swing) : List PV := [.str x.bell, .int .i64 x.rate, .int .i64 x.force]
def Swing.rows (l : List Swing) : List (List PV) := l.map Swing.cells
/-- What the laws count of a value. -/
def Swing.sz (x : Swing) : Nat := x.bell.length
def Swing.szS (l : List Swing) : Nat := l.length + (l.map Swing.sz).sum
/-- The values that arguments have. -/
def Swing.wf (x : Swing) : Prop := x.bell.length ≤ 9223372036854775807 ∧ -9223372036854775808 ≤ x.rate ∧ x.rate ≤ 9223372036854775807 ∧ -9223372036854775808 ≤ x.force ∧ x.force ≤ 9223372036854775807
theorem Swing.fits {cs : List PV} (h : fitsL [.str, .int .i64, .int .i64] cs) : ∃ x : Swing, cs = x.cells ∧ x.wf := by
  obtain ⟨_, _, rfl, h0, h⟩ := fitsL_cons h
  obtain ⟨_, _, rfl, h1, h⟩ := fitsL_cons h
  obtain ⟨_, _, rfl, h2, h⟩ := fitsL_cons h
  obtain rfl := fitsL_nil h
  obtain ⟨v0, rfl, w0⟩ := fits_str h0
  obtain ⟨v1, rfl, w1⟩ := fits_int h1
  obtain ⟨v2, rfl, w2⟩ := fits_int h2
  exact ⟨⟨v0, v1, v2⟩, rfl, w0, (lit64 w1).1, (lit64 w1).2, (lit64 w2).1, (lit64 w2).2⟩
theorem Swing.fitsS {rows : List (List PV)} (h : ∀ r ∈ rows, fitsL [.str, .int .i64, .int .i64] r) : ∃ l : List Swing, rows = Swing.rows l ∧ ∀ x ∈ l, x.wf := list_of fun r hr => Swing.fits (h r hr)
theorem Swing.flat (l : List Swing) : flatRows (Swing.rows l) := fun r hr c hc => by
  obtain ⟨x, _, rfl⟩ := List.mem_map.1 hr
  simp only [Swing.cells, List.mem_cons, List.not_mem_nil, or_false] at hc
  rcases hc with rfl | rfl | rfl <;> rfl
theorem Swing.rows_len (l : List Swing) : (Swing.rows l).length = l.length := by simp [Swing.rows]
theorem Swing.one (l : List Swing) : Go.Ab.rowsOne (Swing.rows l) := fun r hr => by obtain ⟨x, _, rfl⟩ := List.mem_map.1 hr; rfl
theorem c_eqSwing (a b : Swing) : HFn Tryd.prog 36 [.agg a.cells, .agg b.cells] [] (.bool (decide (a = b))) [] := by
  refine hfn_intro hm Tryd.func36 (by kernel_rfl) rfl (by kernel_rfl) rfl ret0_ok ?_
  simp [Swing.cells, Swing.eq_iff]
  grind
theorem c_eqSwingS (a b : List Swing) (ha : a.length ≤ 9223372036854775807) : HFn Tryd.prog 10 [.sl 3 (Swing.rows a), .sl 3 (Swing.rows b)] [] (.bool (decide (a = b))) [] := by
  refine hfn_intro hm Tryd.func10 (by kernel_rfl) rfl (by kernel_rfl) rfl ret0_ok ?_
  simp [Swing.rows]
  refine ⟨fun h => ?_, fun h => ?_⟩
  · exact fun e => h (by rw [e])
  · refine loop_upto hm a.length (fun i => ⟨[(0, .sl 3 (Swing.rows a)), (1, .sl 3 (Swing.rows b)), (5, .int .i64 i)], []⟩) (fun i => a.take i = b.take i) (by kernel_rfl) ?_ (by simp) (fun i hi hI => ?_) (fun hI => ?_)
    · exact Wk.weak (ρ := []) (φ := []) (by simp [Swing.rows])
    · have hl : a.length = b.length := by omega
      have ea := List.getElem?_eq_getElem hi
      have hi' : i < b.length := by omega
      have eb := List.getElem?_eq_getElem hi'
      simp [Swing.rows, hi, hi']
      refine CallZ.use0 (c_eqSwing a[i] b[i]) rfl rfl ?_
      simp
      refine ⟨fun h e => h (by simp [e]), fun h => ⟨take_succ_eq hI ea eb h, ?_⟩⟩
      refine Wk.weak (ρ := []) (φ := []) ?_
      simp
      exact w64 (by omega) (by omega)
    · simp [Swing.rows]
      exact eq_of_take hI (by omega)
/-- A value that the laws have marked, from number k on. -/
def Swing.mark (k : Int) : Swing := ⟨markT k, k + 1, k + 1 + 1⟩
def Swing.marks (k : Int) (n : Nat) : List Swing := (List.range n).map fun i : Nat => Swing.mark (k + 3 * i)
theorem Swing.marks_len (k : Int) (n : Nat) : (Swing.marks k n).length = n := by simp [Swing.marks]
theorem c_markSwingS (l : List Swing) (k : Int) (hk : 0 ≤ k) (ha : 3 * l.length + k ≤ 1000000000) : MFn Tryd.prog 13 [.sf 0 3, .int .i64 k] [some (.arr 3 (Swing.rows l))] [0] (.int .i64 (k + 3 * l.length)) [some (.arr 3 (Swing.rows (Swing.marks k l.length)))] := by
  refine mfn_intro [0] hm Tryd.func13 (by kernel_rfl) rfl (by kernel_rfl) rfl (retM_ok (ρ := [0]) (φ := [])) (by simp [Swing.rows, Swing.marks]) ?_
  simp
  refine loop_upto hm l.length (fun i => ⟨[(0, .sf 0 3), (1, .int .i64 (k + 3 * i)), (5, .int .i64 i), (35, .own 0)], [some (.arr 3 (Swing.rows (Swing.marks k i ++ l.drop i)))]⟩) (fun _ => True) (by kernel_rfl) ?_ trivial (fun i hi _ => ?_) (fun _ => ?_)
  · refine Wk.weak (ρ := [0]) (φ := []) ?_
    simp [Swing.rows, Swing.marks]
  · obtain ⟨X, hX, hl, hg⟩ := marked (fun j : Nat => Swing.mark (k + 3 * j)) l hi
    rw [show Swing.marks k i ++ l.drop i = X from hX]
    simp [Swing.rows, hl, hi]
    refine CallZ.use0 (c_markText _ (by omega)) rfl rfl ?_
    simp [Swing.cells, hl, hg, hi]
    rw [w64 (n := k + 3 * (i : Int) + 1) (by omega) (by omega)]
    rw [w64 (n := k + 3 * (i : Int) + 1 + 1) (by omega) (by omega)]
    rw [w64 (n := k + 3 * (i : Int) + 1 + 1 + 1) (by omega) (by omega)]
    refine Wk.weak (ρ := [0]) (φ := []) ?_
    simp
    rw [w64 (by omega) (by omega), ← hX]
    refine ⟨by omega, ?_⟩
    exact marked_next Swing.cells (fun j : Nat => Swing.mark (k + 3 * j)) l hi
  · simp [Swing.rows, Swing.marks]
theorem c_heldSwingS (a : List Swing) (k : Int) (hk : 0 ≤ k) (ha : 3 * a.length + k ≤ 1000000000) (h : a = Swing.marks k a.length) : HFn Tryd.prog 14 [.sl 3 (Swing.rows a), .int .i64 k] [] (.int .i64 (k + 3 * a.length)) [] := by
  refine hfn_intro hm Tryd.func14 (by kernel_rfl) rfl (by kernel_rfl) rfl ret0_ok ?_
  simp [Swing.rows]
  refine loop_upto hm a.length (fun i => ⟨[(0, .sl 3 (Swing.rows a)), (1, .int .i64 (k + 3 * i)), (5, .int .i64 i)], []⟩) (fun _ => True) (by kernel_rfl) ?_ trivial (fun i hi _ => ?_) (fun _ => ?_)
  · exact Wk.weak (ρ := []) (φ := []) (by simp [Swing.rows])
  · have e : a[i] = Swing.mark (k + 3 * i) := by
      have h1 := List.getElem?_eq_getElem hi
      have h2 : a[i]? = (Swing.marks k a.length)[i]? := by rw [← h]
      rw [h1] at h2
      simpa [Swing.marks, hi] using h2
    have e1 : IntKind.i64.wrap (k + 3 * (i : Int) + 1) = k + 3 * (i : Int) + 1 := w64 (by omega) (by omega)
    have e2 : IntKind.i64.wrap (k + 3 * (i : Int) + 1 + 1) = k + 3 * (i : Int) + 1 + 1 := w64 (by omega) (by omega)
    have e3 : IntKind.i64.wrap (k + 3 * (i : Int) + 1 + 1 + 1) = k + 3 * (i : Int) + 1 + 1 + 1 := w64 (by omega) (by omega)
    have ei : IntKind.i64.wrap ((i : Int) + 1) = i + 1 := w64 (by omega) (by omega)
    simp [Swing.rows, hi, e, Swing.cells, Swing.mark]
    refine CallZ.use0 (c_markText _ (by omega)) rfl rfl ?_
    simp [hi, e, Swing.cells, Swing.mark, ei, e1, e2, e3]
    refine Wk.weak (ρ := []) (φ := []) ?_
    simp
    omega
  · simp [Swing.rows]
end Go.Proofs.YtmdablalfmcgnaaDoor
