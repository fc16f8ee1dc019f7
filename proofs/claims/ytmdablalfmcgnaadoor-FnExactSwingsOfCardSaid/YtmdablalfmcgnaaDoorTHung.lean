/- The type Hung as plain data, and what the functions of package laws do with it. No condition. -/
import Derived.Test.YtmdablalfmcgnaaDoorCd
namespace Go.Proofs.YtmdablalfmcgnaaDoor
open Go Go.Ab
set_option maxRecDepth 100000

structure Hung where
  bell : List UInt8
  mass : Int
  arm : Int
  form : Int
  angle : Int
theorem Hung.eq_iff {a b : Hung} : a = b ↔ a.bell = b.bell ∧ a.mass = b.mass ∧ a.arm = b.arm ∧ a.form = b.form ∧ a.angle = b.angle := by cases a; cases b; simp
instance : DecidableEq Hung := fun _ _ => decidable_of_iff _ Hung.eq_iff.symm
def Hung.cells (x : Hung) : List PV := [.str x.bell, .int .i64 x.mass, .int .i64 x.arm, .int .i64 x.form, .int .i64 x.angle]
def Hung.rows (l : List Hung) : List (List PV) := l.map Hung.cells
/-- What the laws count of a value. -/
def Hung.sz (x : Hung) : Nat := x.bell.length
def Hung.szS (l : List Hung) : Nat := l.length + (l.map Hung.sz).sum
/-- The values that arguments have. -/
def Hung.wf (x : Hung) : Prop := x.bell.length ≤ 9223372036854775807 ∧ -9223372036854775808 ≤ x.mass ∧ x.mass ≤ 9223372036854775807 ∧ -9223372036854775808 ≤ x.arm ∧ x.arm ≤ 9223372036854775807 ∧ -9223372036854775808 ≤ x.form ∧ x.form ≤ 9223372036854775807 ∧ -9223372036854775808 ≤ x.angle ∧ x.angle ≤ 9223372036854775807
theorem Hung.fits {cs : List PV} (h : fitsL [.str, .int .i64, .int .i64, .int .i64, .int .i64] cs) : ∃ x : Hung, cs = x.cells ∧ x.wf := by
  obtain ⟨_, _, rfl, h0, h⟩ := fitsL_cons h
  obtain ⟨_, _, rfl, h1, h⟩ := fitsL_cons h
  obtain ⟨_, _, rfl, h2, h⟩ := fitsL_cons h
  obtain ⟨_, _, rfl, h3, h⟩ := fitsL_cons h
  obtain ⟨_, _, rfl, h4, h⟩ := fitsL_cons h
  obtain rfl := fitsL_nil h
  obtain ⟨v0, rfl, w0⟩ := fits_str h0
  obtain ⟨v1, rfl, w1⟩ := fits_int h1
  obtain ⟨v2, rfl, w2⟩ := fits_int h2
  obtain ⟨v3, rfl, w3⟩ := fits_int h3
  obtain ⟨v4, rfl, w4⟩ := fits_int h4
  exact ⟨⟨v0, v1, v2, v3, v4⟩, rfl, w0, (lit64 w1).1, (lit64 w1).2, (lit64 w2).1, (lit64 w2).2, (lit64 w3).1, (lit64 w3).2, (lit64 w4).1, (lit64 w4).2⟩
theorem Hung.fitsS {rows : List (List PV)} (h : ∀ r ∈ rows, fitsL [.str, .int .i64, .int .i64, .int .i64, .int .i64] r) : ∃ l : List Hung, rows = Hung.rows l ∧ ∀ x ∈ l, x.wf := list_of fun r hr => Hung.fits (h r hr)
theorem Hung.flat (l : List Hung) : flatRows (Hung.rows l) := fun r hr c hc => by
  obtain ⟨x, _, rfl⟩ := List.mem_map.1 hr
  simp only [Hung.cells, List.mem_cons, List.not_mem_nil, or_false] at hc
  rcases hc with rfl | rfl | rfl | rfl | rfl <;> rfl
theorem Hung.rows_len (l : List Hung) : (Hung.rows l).length = l.length := by simp [Hung.rows]
theorem Hung.one (l : List Hung) : Go.Ab.rowsOne (Hung.rows l) := fun r hr => by obtain ⟨x, _, rfl⟩ := List.mem_map.1 hr; rfl
theorem c_szHung (x : Hung) (left : Nat) (hl : left ≤ 1048576) (hx : x.wf) : HFn Tryd.prog 30 [.agg x.cells, .int .i64 left] [] (.int .i64 (szR x.sz left)) [] := by
  unfold Hung.wf at hx
  refine hfn_intro hm Tryd.func30 (by kernel_rfl) rfl (by kernel_rfl) rfl ret0_ok ?_
  simp [Hung.cells, Hung.sz]
  rw [w64 (n := (left : Int) - x.bell.length) (by omega) (by omega)]
  refine ⟨fun h => by rw [szR_neg (by omega)], fun h => by rw [szR_pos (by omega)]⟩
theorem c_szHungS (l : List Hung) (left : Nat) (hl : left ≤ 1048576) (hlen : l.length ≤ 9223372036854775807) (hx : ∀ x ∈ l, x.wf) : HFn Tryd.prog 6 [.sl 5 (Hung.rows l), .int .i64 left] [] (.int .i64 (szR (Hung.szS l) left)) [] := by
  refine hfn_intro hm Tryd.func6 (by kernel_rfl) rfl (by kernel_rfl) rfl ret0_ok ?_
  simp [Hung.rows]
  rw [w64 (n := (left : Int) - l.length) (by omega) (by omega)]
  refine ⟨fun h => by rw [szR_neg (by unfold Hung.szS; omega)], fun h => ?_⟩
  refine loop_upto hm l.length (fun i => ⟨[(0, .sl 5 (Hung.rows l)), (1, .int .i64 (left - l.length - sumT Hung.sz l i)), (5, .int .i64 i)], []⟩) (fun i => l.length + sumT Hung.sz l i ≤ left) (by kernel_rfl) ?_ (by rw [sumT_zero]; omega) (fun i hi hI => ?_) (fun hI => ?_)
  · exact Wk.weak (ρ := []) (φ := []) (by simp [Hung.rows, sumT_zero])
  · have ea := List.getElem?_eq_getElem hi
    have es := sumT_succ Hung.sz hi
    have hle := sumT_le Hung.sz l (i + 1)
    have e1 : (left : Int) - l.length - sumT Hung.sz l i = ((left - l.length - sumT Hung.sz l i : Nat) : Int) := by omega
    rw [e1]
    simp [Hung.rows, hi]
    refine CallZ.use0 (c_szHung l[i] _ (by omega) (hx _ (List.getElem_mem hi))) rfl rfl ?_
    simp
    refine ⟨fun h => ?_, fun h => ?_⟩
    · have := szR_lt h
      rw [szR_neg (by unfold Hung.szS; omega)]
    · have hh := szR_ge h
      refine ⟨by omega, ?_⟩
      refine Wk.weak (ρ := []) (φ := []) ?_
      simp
      rw [w64 (by omega) (by omega), szR_pos hh]
      omega
  · simp [Hung.rows]
    rw [sumT_len] at hI ⊢
    rw [szR_pos (by unfold Hung.szS; omega)]
    unfold Hung.szS
    omega
theorem c_toHung (x : Hung) : HFn Tryd.prog 33 [.agg x.cells] [] (.agg x.cells) [] := by
  refine hfn_intro hm Tryd.func33 (by kernel_rfl) rfl (by kernel_rfl) rfl ret0_ok ?_
  simp [Hung.cells]
theorem c_toHungS (l : List Hung) (hl : l.length ≤ 1048576) : HFn Tryd.prog 8 [.sl 5 (Hung.rows l)] [] (.sf 0 5) [some (.arr 5 (Hung.rows l))] := by
  refine hfn_intro hm Tryd.func8 (by kernel_rfl) rfl (by kernel_rfl) rfl (retN_ok (ρ := [0]) (φ := [])) ?_
  simp [Hung.rows]
  refine ⟨by omega, by omega, ?_⟩
  refine loop_upto hm l.length (fun i => ⟨[(0, .sl 5 (Hung.rows l)), (3, .sf 0 5), (4, .int .i64 i)], [some (.arr 5 ((l.take i).map Hung.cells ++ List.replicate (l.length - i) [.str [], .int .i64 0, .int .i64 0, .int .i64 0, .int .i64 0]))]⟩) (fun _ => True) (by kernel_rfl) ?_ trivial (fun i hi _ => ?_) (fun _ => ?_)
  · exact Wk.weak (ρ := [0]) (φ := []) (by simp [Hung.rows])
  · obtain ⟨X, hX, hXl, hXg⟩ := filled Hung.cells l [.str [], .int .i64 0, .int .i64 0, .int .i64 0, .int .i64 0] hi
    rw [hX]
    have ea := List.getElem?_eq_getElem hi
    simp [Hung.rows, hi]
    refine CallZ.use0 (c_toHung _) rfl rfl ?_
    simp [Hung.cells, hi, hXl, hXg]
    refine Wk.weak (ρ := [0]) (φ := []) ?_
    simp
    rw [w64 (by omega) (by omega), ← hX]
    exact ⟨rfl, filled_next Hung.cells l [.str [], .int .i64 0, .int .i64 0, .int .i64 0, .int .i64 0] hi⟩
  · simp [Hung.rows]
theorem c_eqHung (a b : Hung) : HFn Tryd.prog 37 [.agg a.cells, .agg b.cells] [] (.bool (decide (a = b))) [] := by
  refine hfn_intro hm Tryd.func37 (by kernel_rfl) rfl (by kernel_rfl) rfl ret0_ok ?_
  simp [Hung.cells, Hung.eq_iff]
  grind
theorem c_eqHungS (a b : List Hung) (ha : a.length ≤ 9223372036854775807) : HFn Tryd.prog 11 [.sl 5 (Hung.rows a), .sl 5 (Hung.rows b)] [] (.bool (decide (a = b))) [] := by
  refine hfn_intro hm Tryd.func11 (by kernel_rfl) rfl (by kernel_rfl) rfl ret0_ok ?_
  simp [Hung.rows]
  refine ⟨fun h => ?_, fun h => ?_⟩
  · exact fun e => h (by rw [e])
  · refine loop_upto hm a.length (fun i => ⟨[(0, .sl 5 (Hung.rows a)), (1, .sl 5 (Hung.rows b)), (5, .int .i64 i)], []⟩) (fun i => a.take i = b.take i) (by kernel_rfl) ?_ (by simp) (fun i hi hI => ?_) (fun hI => ?_)
    · exact Wk.weak (ρ := []) (φ := []) (by simp [Hung.rows])
    · have hl : a.length = b.length := by omega
      have ea := List.getElem?_eq_getElem hi
      have hi' : i < b.length := by omega
      have eb := List.getElem?_eq_getElem hi'
      simp [Hung.rows, hi, hi']
      refine CallZ.use0 (c_eqHung a[i] b[i]) rfl rfl ?_
      simp
      refine ⟨fun h e => h (by simp [e]), fun h => ⟨take_succ_eq hI ea eb h, ?_⟩⟩
      refine Wk.weak (ρ := []) (φ := []) ?_
      simp
      exact w64 (by omega) (by omega)
    · simp [Hung.rows]
      exact eq_of_take hI (by omega)
/-- A value that the laws have marked, from number k on. -/
def Hung.mark (k : Int) : Hung := ⟨markT k, k + 1, k + 1 + 1, k + 1 + 1 + 1, k + 1 + 1 + 1 + 1⟩
def Hung.marks (k : Int) (n : Nat) : List Hung := (List.range n).map fun i : Nat => Hung.mark (k + 5 * i)
theorem Hung.marks_len (k : Int) (n : Nat) : (Hung.marks k n).length = n := by simp [Hung.marks]
theorem c_markHungS (l : List Hung) (k : Int) (hk : 0 ≤ k) (ha : 5 * l.length + k ≤ 1000000000) : MFn Tryd.prog 12 [.sf 0 5, .int .i64 k] [some (.arr 5 (Hung.rows l))] [0] (.int .i64 (k + 5 * l.length)) [some (.arr 5 (Hung.rows (Hung.marks k l.length)))] := by
  refine mfn_intro [0] hm Tryd.func12 (by kernel_rfl) rfl (by kernel_rfl) rfl (retM_ok (ρ := [0]) (φ := [])) (by simp [Hung.rows, Hung.marks]) ?_
  simp
  refine loop_upto hm l.length (fun i => ⟨[(0, .sf 0 5), (1, .int .i64 (k + 5 * i)), (5, .int .i64 i), (49, .own 0)], [some (.arr 5 (Hung.rows (Hung.marks k i ++ l.drop i)))]⟩) (fun _ => True) (by kernel_rfl) ?_ trivial (fun i hi _ => ?_) (fun _ => ?_)
  · refine Wk.weak (ρ := [0]) (φ := []) ?_
    simp [Hung.rows, Hung.marks]
  · obtain ⟨X, hX, hl, hg⟩ := marked (fun j : Nat => Hung.mark (k + 5 * j)) l hi
    rw [show Hung.marks k i ++ l.drop i = X from hX]
    simp [Hung.rows, hl, hi]
    refine CallZ.use0 (c_markText _ (by omega)) rfl rfl ?_
    simp [Hung.cells, hl, hg, hi]
    rw [w64 (n := k + 5 * (i : Int) + 1) (by omega) (by omega)]
    rw [w64 (n := k + 5 * (i : Int) + 1 + 1) (by omega) (by omega)]
    rw [w64 (n := k + 5 * (i : Int) + 1 + 1 + 1) (by omega) (by omega)]
    rw [w64 (n := k + 5 * (i : Int) + 1 + 1 + 1 + 1) (by omega) (by omega)]
    rw [w64 (n := k + 5 * (i : Int) + 1 + 1 + 1 + 1 + 1) (by omega) (by omega)]
    refine Wk.weak (ρ := [0]) (φ := []) ?_
    simp
    rw [w64 (by omega) (by omega), ← hX]
    refine ⟨by omega, ?_⟩
    exact marked_next Hung.cells (fun j : Nat => Hung.mark (k + 5 * j)) l hi
  · simp [Hung.rows, Hung.marks]
end Go.Proofs.YtmdablalfmcgnaaDoor
