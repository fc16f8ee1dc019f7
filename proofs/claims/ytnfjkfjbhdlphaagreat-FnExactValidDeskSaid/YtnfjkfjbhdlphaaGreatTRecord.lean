/- The type Record as plain data, and what the functions of package laws do with it. No condition. -/
import Derived.Test.YtnfjkfjbhdlphaaGreatCd
import Derived.Test.YtnfjkfjbhdlphaaGreatKd
namespace Go.Proofs.YtnfjkfjbhdlphaaGreat
open Go Go.Ab

set_option maxRecDepth 100000

structure Record where
  kind : Int
  key : List UInt8
  text : List UInt8
theorem Record.eq_iff {a b : Record} : a = b ↔ a.kind = b.kind ∧ a.key = b.key ∧ a.text = b.text := by cases a; cases b; simp
instance : DecidableEq Record := fun _ _ => decidable_of_iff _ Record.eq_iff.symm
def Record.cells (x : Record) : List PV := [.int .i64 x.kind, .str x.key, .str x.text]
def Record.rows (l : List Record) : List (List PV) := l.map Record.cells
/-- What the laws count of a value. -/
def Record.sz (x : Record) : Nat := x.key.length + x.text.length
def Record.szS (l : List Record) : Nat := l.length + (l.map Record.sz).sum
/-- The values that arguments have. -/
def Record.wf (x : Record) : Prop := -9223372036854775808 ≤ x.kind ∧ x.kind ≤ 9223372036854775807 ∧ x.key.length ≤ 9223372036854775807 ∧ x.text.length ≤ 9223372036854775807
theorem Record.fits {cs : List PV} (h : fitsL [.int .i64, .str, .str] cs) : ∃ x : Record, cs = x.cells ∧ x.wf := by
  obtain ⟨_, _, rfl, h0, h⟩ := fitsL_cons h
  obtain ⟨_, _, rfl, h1, h⟩ := fitsL_cons h
  obtain ⟨_, _, rfl, h2, h⟩ := fitsL_cons h
  obtain rfl := fitsL_nil h
  obtain ⟨v0, rfl, w0⟩ := fits_int h0
  obtain ⟨v1, rfl, w1⟩ := fits_str h1
  obtain ⟨v2, rfl, w2⟩ := fits_str h2
  exact ⟨⟨v0, v1, v2⟩, rfl, (lit64 w0).1, (lit64 w0).2, w1, w2⟩
theorem Record.fitsS {rows : List (List PV)} (h : ∀ r ∈ rows, fitsL [.int .i64, .str, .str] r) : ∃ l : List Record, rows = Record.rows l ∧ ∀ x ∈ l, x.wf := list_of fun r hr => Record.fits (h r hr)
theorem Record.flat (l : List Record) : flatRows (Record.rows l) := fun r hr c hc => by
  obtain ⟨x, _, rfl⟩ := List.mem_map.1 hr
  simp only [Record.cells, List.mem_cons, List.not_mem_nil, or_false] at hc
  rcases hc with rfl | rfl | rfl <;> rfl
theorem Record.rows_len (l : List Record) : (Record.rows l).length = l.length := by simp [Record.rows]
theorem Record.one (l : List Record) : Go.Ab.rowsOne (Record.rows l) := fun r hr => by obtain ⟨x, _, rfl⟩ := List.mem_map.1 hr; rfl
theorem c_szRecord (x : Record) (left : Nat) (hl : left ≤ 1048576) (hx : x.wf) : HFn Tryz.prog 85 [.agg x.cells, .int .i64 left] [] (.int .i64 (szR x.sz left)) [] := by
  unfold Record.wf at hx
  refine hfn_intro hm Tryz.func85 (by kernel_rfl) rfl (by kernel_rfl) rfl ret0_ok ?_
  simp [Record.cells, Record.sz]
  rw [w64 (n := (left : Int) - x.key.length) (by omega) (by omega)]
  refine ⟨fun h => by rw [szR_neg (by omega)], fun h => ?_⟩
  rw [w64 (n := (left : Int) - x.key.length - x.text.length) (by omega) (by omega)]
  refine ⟨fun h => by rw [szR_neg (by omega)], fun h => by rw [szR_pos (by omega)]; omega⟩
theorem c_szRecordS (l : List Record) (left : Nat) (hl : left ≤ 1048576) (hlen : l.length ≤ 9223372036854775807) (hx : ∀ x ∈ l, x.wf) : HFn Tryz.prog 19 [.sl 3 (Record.rows l), .int .i64 left] [] (.int .i64 (szR (Record.szS l) left)) [] := by
  refine hfn_intro hm Tryz.func19 (by kernel_rfl) rfl (by kernel_rfl) rfl ret0_ok ?_
  simp [Record.rows]
  rw [w64 (n := (left : Int) - l.length) (by omega) (by omega)]
  refine ⟨fun h => by rw [szR_neg (by unfold Record.szS; omega)], fun h => ?_⟩
  refine loop_upto hm l.length (fun i => ⟨[(0, .sl 3 (Record.rows l)), (1, .int .i64 (left - l.length - sumT Record.sz l i)), (5, .int .i64 i)], []⟩) (fun i => l.length + sumT Record.sz l i ≤ left) (by kernel_rfl) ?_ (by rw [sumT_zero]; omega) (fun i hi hI => ?_) (fun hI => ?_)
  · exact Wk.weak (ρ := []) (φ := []) (by simp [Record.rows, sumT_zero])
  · have ea := List.getElem?_eq_getElem hi
    have es := sumT_succ Record.sz hi
    have hle := sumT_le Record.sz l (i + 1)
    have e1 : (left : Int) - l.length - sumT Record.sz l i = ((left - l.length - sumT Record.sz l i : Nat) : Int) := by omega
    rw [e1]
    simp [Record.rows, hi]
    refine CallZ.use0 (c_szRecord l[i] _ (by omega) (hx _ (List.getElem_mem hi))) rfl rfl ?_
    simp
    refine ⟨fun h => ?_, fun h => ?_⟩
    · have := szR_lt h
      rw [szR_neg (by unfold Record.szS; omega)]
    · have hh := szR_ge h
      refine ⟨by omega, ?_⟩
      refine Wk.weak (ρ := []) (φ := []) ?_
      simp
      rw [w64 (by omega) (by omega), szR_pos hh]
      omega
  · simp [Record.rows]
    rw [sumT_len] at hI ⊢
    rw [szR_pos (by unfold Record.szS; omega)]
    unfold Record.szS
    omega
theorem c_toRecord (x : Record) : HFn Tryz.prog 92 [.agg x.cells] [] (.agg x.cells) [] := by
  refine hfn_intro hm Tryz.func92 (by kernel_rfl) rfl (by kernel_rfl) rfl ret0_ok ?_
  simp [Record.cells]
theorem c_toRecordS (l : List Record) (hl : l.length ≤ 1048576) : HFn Tryz.prog 24 [.sl 3 (Record.rows l)] [] (.sf 0 3) [some (.arr 3 (Record.rows l))] := by
  refine hfn_intro hm Tryz.func24 (by kernel_rfl) rfl (by kernel_rfl) rfl (retN_ok (ρ := [0]) (φ := [])) ?_
  simp [Record.rows]
  refine ⟨by omega, by omega, ?_⟩
  refine loop_upto hm l.length (fun i => ⟨[(0, .sl 3 (Record.rows l)), (3, .sf 0 3), (4, .int .i64 i)], [some (.arr 3 ((l.take i).map Record.cells ++ List.replicate (l.length - i) [.int .i64 0, .str [], .str []]))]⟩) (fun _ => True) (by kernel_rfl) ?_ trivial (fun i hi _ => ?_) (fun _ => ?_)
  · exact Wk.weak (ρ := [0]) (φ := []) (by simp [Record.rows])
  · obtain ⟨X, hX, hXl, hXg⟩ := filled Record.cells l [.int .i64 0, .str [], .str []] hi
    rw [hX]
    have ea := List.getElem?_eq_getElem hi
    simp [Record.rows, hi]
    refine CallZ.use0 (c_toRecord _) rfl rfl ?_
    simp [Record.cells, hi, hXl, hXg]
    refine Wk.weak (ρ := [0]) (φ := []) ?_
    simp
    rw [w64 (by omega) (by omega), ← hX]
    exact ⟨rfl, filled_next Record.cells l [.int .i64 0, .str [], .str []] hi⟩
  · simp [Record.rows]
theorem c_toRecordSF (l : List Record) (hl : l.length ≤ 1048576) : HFn Tryz.prog 24 [.sl 3 (Record.rows l)] [] (.sl 3 (Record.rows l)) [] := (c_toRecordS l hl).less (Wk.weak (ρ := []) (φ := [0]) (by simp))
theorem c_eqRecord (a b : Record) : HFn Tryz.prog 104 [.agg a.cells, .agg b.cells] [] (.bool (decide (a = b))) [] := by
  refine hfn_intro hm Tryz.func104 (by kernel_rfl) rfl (by kernel_rfl) rfl ret0_ok ?_
  simp [Record.cells, Record.eq_iff]
  grind
theorem c_eqRecordS (a b : List Record) (ha : a.length ≤ 9223372036854775807) : HFn Tryz.prog 38 [.sl 3 (Record.rows a), .sl 3 (Record.rows b)] [] (.bool (decide (a = b))) [] := by
  refine hfn_intro hm Tryz.func38 (by kernel_rfl) rfl (by kernel_rfl) rfl ret0_ok ?_
  simp [Record.rows]
  refine ⟨fun h => ?_, fun h => ?_⟩
  · exact fun e => h (by rw [e])
  · refine loop_upto hm a.length (fun i => ⟨[(0, .sl 3 (Record.rows a)), (1, .sl 3 (Record.rows b)), (5, .int .i64 i)], []⟩) (fun i => a.take i = b.take i) (by kernel_rfl) ?_ (by simp) (fun i hi hI => ?_) (fun hI => ?_)
    · exact Wk.weak (ρ := []) (φ := []) (by simp [Record.rows])
    · have hl : a.length = b.length := by omega
      have ea := List.getElem?_eq_getElem hi
      have hi' : i < b.length := by omega
      have eb := List.getElem?_eq_getElem hi'
      simp [Record.rows, hi, hi']
      refine CallZ.use0 (c_eqRecord a[i] b[i]) rfl rfl ?_
      simp
      refine ⟨fun h e => h (by simp [e]), fun h => ⟨take_succ_eq hI ea eb h, ?_⟩⟩
      refine Wk.weak (ρ := []) (φ := []) ?_
      simp
      exact w64 (by omega) (by omega)
    · simp [Record.rows]
      exact eq_of_take hI (by omega)
theorem c_EqualRecord (a b : List Record) (ha : a.length ≤ 9223372036854775807) : HFn Tryz.prog 102 [.sl 3 (Record.rows a), .sl 3 (Record.rows b)] [] (.bool (decide (a = b))) [] := by
  refine hfn_intro hm Tryz.func102 (by kernel_rfl) rfl (by kernel_rfl) rfl ret0_ok ?_
  simp [Record.rows]
  refine ⟨fun h => ?_, fun h => ?_⟩
  · exact fun e => h (by rw [e])
  · refine loop_upto hm a.length (fun i => ⟨[(0, .sl 3 (Record.rows a)), (1, .sl 3 (Record.rows b)), (12, .int .i64 a.length), (13, .int .i64 i)], []⟩) (fun i => a.take i = b.take i) (by kernel_rfl) ?_ (by simp) (fun i hi hI => ?_) (fun hI => ?_)
    · exact Wk.weak (ρ := []) (φ := []) (by simp [Record.rows])
    · have hl : a.length = b.length := by omega
      have ea := List.getElem?_eq_getElem hi
      have hi' : i < b.length := by omega
      have eb := List.getElem?_eq_getElem hi'
      simp [Record.rows, Record.cells, hi, hi']
      refine ⟨fun h e => ?_, fun q0 q1 q2 => ⟨take_succ_eq hI ea eb (Record.eq_iff.2 ⟨q0, q1, q2⟩), ?_⟩⟩
      · subst e; simp at h
      · refine Wk.weak (ρ := []) (φ := []) ?_
        simp
        exact w64 (by omega) (by omega)
    · simp [Record.rows]
      exact eq_of_take hI (by omega)
end Go.Proofs.YtnfjkfjbhdlphaaGreat
