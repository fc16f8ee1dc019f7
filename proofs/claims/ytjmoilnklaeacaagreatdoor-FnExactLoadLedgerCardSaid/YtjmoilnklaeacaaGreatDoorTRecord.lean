/- The type Record as plain data, and what the functions of package laws do with it. No condition. -/
import Derived.Test.YtjmoilnklaeacaaGreatDoorCd
namespace Go.Proofs.YtjmoilnklaeacaaGreatDoor
open Go Go.Ab
set_option maxRecDepth 100000

structure Record where
  kind : Int
  key : List UInt8
  text : List UInt8
theorem Record.eq_iff {a b : Record} : a = b ↔ a.kind = b.kind ∧ a.key = b.key ∧ a.text = b.text := by cases a; cases b; simp
instance : DecidableEq Record := fun _ _ => decidable_of_iff _ Record.eq_iff.symm
def Record.cells (x : Record) : List PV := [.int .i64 x.kind, .str x.key, .str x.text]
def Record.rows (l : List Record) : List (List PV) := l.map Record.cells
/-- What the laws count of a value. -/
def Record.sz (x : Record) : Nat := x.key.length + x.text.length
def Record.szS (l : List Record) : Nat := l.length + (l.map Record.sz).sum
/-- The values that arguments have. -/
def Record.wf (x : Record) : Prop := -9223372036854775808 ≤ x.kind ∧ x.kind ≤ 9223372036854775807 ∧ x.key.length ≤ 9223372036854775807 ∧ x.text.length ≤ 9223372036854775807
theorem Record.fits {cs : List PV} (h : fitsL [.int .i64, .str, .str] cs) : ∃ x : Record, cs = x.cells ∧ x.wf := by
  obtain ⟨_, _, rfl, h0, h⟩ := fitsL_cons h
  obtain ⟨_, _, rfl, h1, h⟩ := fitsL_cons h
  obtain ⟨_, _, rfl, h2, h⟩ := fitsL_cons h
  obtain rfl := fitsL_nil h
  obtain ⟨v0, rfl, w0⟩ := fits_int h0
  obtain ⟨v1, rfl, w1⟩ := fits_str h1
  obtain ⟨v2, rfl, w2⟩ := fits_str h2
  exact ⟨⟨v0, v1, v2⟩, rfl, (lit64 w0).1, (lit64 w0).2, w1, w2⟩
theorem Record.fitsS {rows : List (List PV)} (h : ∀ r ∈ rows, fitsL [.int .i64, .str, .str] r) : ∃ l : List Record, rows = Record.rows l ∧ ∀ x ∈ l, x.wf := list_of fun r hr => Record.fits (h r hr)
theorem Record.flat (l : List Record) : flatRows (Record.rows l) := fun r hr c hc => by
  obtain ⟨x, _, rfl⟩ := List.mem_map.1 hr
  simp only [Record.cells, List.mem_cons, List.not_mem_nil, or_false] at hc
  rcases hc with rfl | rfl | rfl <;> rfl
theorem Record.rows_len (l : List Record) : (Record.rows l).length = l.length := by simp [Record.rows]
theorem c_eqRecord (a b : Record) : HFn Tryz.prog 59 [.agg a.cells, .agg b.cells] [] (.bool (decide (a = b))) [] := by
  refine hfn_intro hm Tryz.func59 (by kernel_rfl) rfl (by kernel_rfl) rfl ret0_ok ?_
  simp [Record.cells, Record.eq_iff]
  grind
theorem c_eqRecordS (a b : List Record) (ha : a.length ≤ 9223372036854775807) : HFn Tryz.prog 15 [.sl 3 (Record.rows a), .sl 3 (Record.rows b)] [] (.bool (decide (a = b))) [] := by
  refine hfn_intro hm Tryz.func15 (by kernel_rfl) rfl (by kernel_rfl) rfl ret0_ok ?_
  simp [Record.rows]
  refine ⟨fun h => ?_, fun h => ?_⟩
  · exact fun e => h (by rw [e])
  · refine loop_upto hm a.length (fun i => ⟨[(0, .sl 3 (Record.rows a)), (1, .sl 3 (Record.rows b)), (5, .int .i64 i)], []⟩) (fun i => a.take i = b.take i) (by kernel_rfl) ?_ (by simp) (fun i hi hI => ?_) (fun hI => ?_)
    · exact Wk.weak (ρ := []) (φ := []) (by simp [Record.rows])
    · have hl : a.length = b.length := by omega
      have ea := List.getElem?_eq_getElem hi
      have hi' : i < b.length := by omega
      have eb := List.getElem?_eq_getElem hi'
      simp [Record.rows, hi, hi']
      refine CallZ.use0 (c_eqRecord a[i] b[i]) rfl rfl ?_
      simp
      refine ⟨fun h e => h (by simp [e]), fun h => ⟨take_succ_eq hI ea eb h, ?_⟩⟩
      refine Wk.weak (ρ := []) (φ := []) ?_
      simp
      exact w64 (by omega) (by omega)
    · simp [Record.rows]
      exact eq_of_take hI (by omega)
theorem c_EqualRecord (a b : List Record) (ha : a.length ≤ 9223372036854775807) : HFn Tryz.prog 65 [.sl 3 (Record.rows a), .sl 3 (Record.rows b)] [] (.bool (decide (a = b))) [] := by
  refine hfn_intro hm Tryz.func65 (by kernel_rfl) rfl (by kernel_rfl) rfl ret0_ok ?_
  simp [Record.rows]
  refine ⟨fun h => ?_, fun h => ?_⟩
  · exact fun e => h (by rw [e])
  · refine loop_upto hm a.length (fun i => ⟨[(0, .sl 3 (Record.rows a)), (1, .sl 3 (Record.rows b)), (12, .int .i64 a.length), (13, .int .i64 i)], []⟩) (fun i => a.take i = b.take i) (by kernel_rfl) ?_ (by simp) (fun i hi hI => ?_) (fun hI => ?_)
    · exact Wk.weak (ρ := []) (φ := []) (by simp [Record.rows])
    · have hl : a.length = b.length := by omega
      have ea := List.getElem?_eq_getElem hi
      have hi' : i < b.length := by omega
      have eb := List.getElem?_eq_getElem hi'
      simp [Record.rows, Record.cells, hi, hi']
      refine ⟨fun h e => ?_, fun q0 q1 q2 => ⟨take_succ_eq hI ea eb (Record.eq_iff.2 ⟨q0, q1, q2⟩), ?_⟩⟩
      · subst e; simp at h
      · refine Wk.weak (ρ := []) (φ := []) ?_
        simp
        exact w64 (by omega) (by omega)
    · simp [Record.rows]
      exact eq_of_take hI (by omega)
/-- A value that the laws have marked, from number k on. -/
def Record.mark (k : Int) : Record := ⟨k, markT (k + 1), markT (k + 1 + 1)⟩
def Record.marks (k : Int) (n : Nat) : List Record := (List.range n).map fun i : Nat => Record.mark (k + 3 * i)
theorem Record.marks_len (k : Int) (n : Nat) : (Record.marks k n).length = n := by simp [Record.marks]
theorem c_markRecordS (l : List Record) (k : Int) (hk : 0 ≤ k) (ha : 3 * l.length + k ≤ 1000000000) : MFn Tryz.prog 16 [.sf 0 3, .int .i64 k] [some (.arr 3 (Record.rows l))] [0] (.int .i64 (k + 3 * l.length)) [some (.arr 3 (Record.rows (Record.marks k l.length)))] := by
  refine mfn_intro [0] hm Tryz.func16 (by kernel_rfl) rfl (by kernel_rfl) rfl (retM_ok (ρ := [0]) (φ := [])) (by simp [Record.rows, Record.marks]) ?_
  simp
  refine loop_upto hm l.length (fun i => ⟨[(0, .sf 0 3), (1, .int .i64 (k + 3 * i)), (5, .int .i64 i), (36, .own 0)], [some (.arr 3 (Record.rows (Record.marks k i ++ l.drop i)))]⟩) (fun _ => True) (by kernel_rfl) ?_ trivial (fun i hi _ => ?_) (fun _ => ?_)
  · refine Wk.weak (ρ := [0]) (φ := []) ?_
    simp [Record.rows, Record.marks]
  · obtain ⟨X, hX, hl, hg⟩ := marked (fun j : Nat => Record.mark (k + 3 * j)) l hi
    rw [show Record.marks k i ++ l.drop i = X from hX]
    simp [Record.rows, Record.cells, hl, hg, hi]
    rw [w64 (n := k + 3 * (i : Int) + 1) (by omega) (by omega)]
    refine CallZ.use0 (c_markText _ (by omega)) rfl rfl ?_
    simp [hl, hi]
    rw [w64 (n := k + 3 * (i : Int) + 1 + 1) (by omega) (by omega)]
    refine CallZ.use0 (c_markText _ (by omega)) rfl rfl ?_
    simp [hl, hi]
    rw [w64 (n := k + 3 * (i : Int) + 1 + 1 + 1) (by omega) (by omega)]
    refine Wk.weak (ρ := [0]) (φ := []) ?_
    simp
    rw [w64 (by omega) (by omega), ← hX]
    refine ⟨by omega, ?_⟩
    exact marked_next Record.cells (fun j : Nat => Record.mark (k + 3 * j)) l hi
  · simp [Record.rows, Record.marks]
theorem c_heldRecordS (a : List Record) (k : Int) (hk : 0 ≤ k) (ha : 3 * a.length + k ≤ 1000000000) (h : a = Record.marks k a.length) : HFn Tryz.prog 17 [.sl 3 (Record.rows a), .int .i64 k] [] (.int .i64 (k + 3 * a.length)) [] := by
  refine hfn_intro hm Tryz.func17 (by kernel_rfl) rfl (by kernel_rfl) rfl ret0_ok ?_
  simp [Record.rows]
  refine loop_upto hm a.length (fun i => ⟨[(0, .sl 3 (Record.rows a)), (1, .int .i64 (k + 3 * i)), (5, .int .i64 i)], []⟩) (fun _ => True) (by kernel_rfl) ?_ trivial (fun i hi _ => ?_) (fun _ => ?_)
  · exact Wk.weak (ρ := []) (φ := []) (by simp [Record.rows])
  · have e : a[i] = Record.mark (k + 3 * i) := by
      have h1 := List.getElem?_eq_getElem hi
      have h2 : a[i]? = (Record.marks k a.length)[i]? := by rw [← h]
      rw [h1] at h2
      simpa [Record.marks, hi] using h2
    have e1 : IntKind.i64.wrap (k + 3 * (i : Int) + 1) = k + 3 * (i : Int) + 1 := w64 (by omega) (by omega)
    have e2 : IntKind.i64.wrap (k + 3 * (i : Int) + 1 + 1) = k + 3 * (i : Int) + 1 + 1 := w64 (by omega) (by omega)
    have e3 : IntKind.i64.wrap (k + 3 * (i : Int) + 1 + 1 + 1) = k + 3 * (i : Int) + 1 + 1 + 1 := w64 (by omega) (by omega)
    have ei : IntKind.i64.wrap ((i : Int) + 1) = i + 1 := w64 (by omega) (by omega)
    simp [Record.rows, hi, e, Record.cells, Record.mark, e1]
    refine CallZ.use0 (c_markText _ (by omega)) rfl rfl ?_
    simp [hi, e, Record.cells, Record.mark, e2]
    refine CallZ.use0 (c_markText _ (by omega)) rfl rfl ?_
    simp [ei, e3]
    refine Wk.weak (ρ := []) (φ := []) ?_
    simp
    omega
  · simp [Record.rows]
end Go.Proofs.YtjmoilnklaeacaaGreatDoor
