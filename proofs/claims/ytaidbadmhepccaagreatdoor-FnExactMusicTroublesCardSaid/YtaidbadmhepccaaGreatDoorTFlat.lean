/- The types Alloy, Ingot, Hung, Chamber, Place, Tower, Share, Load, Lever, Swing, Trouble as plain data, and what the functions of package laws do with them. No condition. -/
import Derived.Test.YtaidbadmhepccaaGreatDoorCd
import Derived.Test.YtaidbadmhepccaaGreatDoorKd
namespace Go.Proofs.YtaidbadmhepccaaGreatDoor
open Go Go.Ab

set_option maxRecDepth 100000

structure Alloy where
  copper : Int
  tin : Int
  other : Int
theorem Alloy.eq_iff {a b : Alloy} : a = b ↔ a.copper = b.copper ∧ a.tin = b.tin ∧ a.other = b.other := by cases a; cases b; simp
instance : DecidableEq Alloy := fun _ _ => decidable_of_iff _ Alloy.eq_iff.symm
def Alloy.cells (x : Alloy) : List PV := [.int .i64 x.copper, .int .i64 x.tin, .int .i64 x.other]
def Alloy.rows (l : List Alloy) : List (List PV) := l.map Alloy.cells
/-- What the laws count of a value. -/
def Alloy.sz (_ : Alloy) : Nat := 0
def Alloy.szS (l : List Alloy) : Nat := l.length + (l.map Alloy.sz).sum
/-- The values that arguments have. -/
def Alloy.wf (x : Alloy) : Prop := -9223372036854775808 ≤ x.copper ∧ x.copper ≤ 9223372036854775807 ∧ -9223372036854775808 ≤ x.tin ∧ x.tin ≤ 9223372036854775807 ∧ -9223372036854775808 ≤ x.other ∧ x.other ≤ 9223372036854775807
theorem Alloy.fits {cs : List PV} (h : fitsL [.int .i64, .int .i64, .int .i64] cs) : ∃ x : Alloy, cs = x.cells ∧ x.wf := by
  obtain ⟨_, _, rfl, h0, h⟩ := fitsL_cons h
  obtain ⟨_, _, rfl, h1, h⟩ := fitsL_cons h
  obtain ⟨_, _, rfl, h2, h⟩ := fitsL_cons h
  obtain rfl := fitsL_nil h
  obtain ⟨v0, rfl, w0⟩ := fits_int h0
  obtain ⟨v1, rfl, w1⟩ := fits_int h1
  obtain ⟨v2, rfl, w2⟩ := fits_int h2
  exact ⟨⟨v0, v1, v2⟩, rfl, (lit64 w0).1, (lit64 w0).2, (lit64 w1).1, (lit64 w1).2, (lit64 w2).1, (lit64 w2).2⟩
theorem Alloy.fitsS {rows : List (List PV)} (h : ∀ r ∈ rows, fitsL [.int .i64, .int .i64, .int .i64] r) : ∃ l : List Alloy, rows = Alloy.rows l ∧ ∀ x ∈ l, x.wf := list_of fun r hr => Alloy.fits (h r hr)
theorem Alloy.flat (l : List Alloy) : flatRows (Alloy.rows l) := fun r hr c hc => by
  obtain ⟨x, _, rfl⟩ := List.mem_map.1 hr
  simp only [Alloy.cells, List.mem_cons, List.not_mem_nil, or_false] at hc
  rcases hc with rfl | rfl | rfl <;> rfl
theorem Alloy.rows_len (l : List Alloy) : (Alloy.rows l).length = l.length := by simp [Alloy.rows]
theorem Alloy.one (l : List Alloy) : Go.Ab.rowsOne (Alloy.rows l) := fun r hr => by obtain ⟨x, _, rfl⟩ := List.mem_map.1 hr; rfl
theorem c_toAlloy (x : Alloy) : HFn Tryz.prog 148 [.agg x.cells] [] (.agg x.cells) [] := by
  refine hfn_intro hm Tryz.func148 (by kernel_rfl) rfl (by kernel_rfl) rfl ret0_ok ?_
  simp [Alloy.cells]
theorem c_eqAlloy (a b : Alloy) : HFn Tryz.prog 170 [.agg a.cells, .agg b.cells] [] (.bool (decide (a = b))) [] := by
  refine hfn_intro hm Tryz.func170 (by kernel_rfl) rfl (by kernel_rfl) rfl ret0_ok ?_
  simp [Alloy.cells, Alloy.eq_iff]
  grind
end Go.Proofs.YtaidbadmhepccaaGreatDoor

namespace Go.Proofs.YtaidbadmhepccaaGreatDoor
open Go Go.Ab

set_option maxRecDepth 100000

structure Ingot where
  id : List UInt8
  mass : Int
  alloyCopper : Int
  alloyTin : Int
  alloyOther : Int
theorem Ingot.eq_iff {a b : Ingot} : a = b ↔ a.id = b.id ∧ a.mass = b.mass ∧ a.alloyCopper = b.alloyCopper ∧ a.alloyTin = b.alloyTin ∧ a.alloyOther = b.alloyOther := by cases a; cases b; simp
instance : DecidableEq Ingot := fun _ _ => decidable_of_iff _ Ingot.eq_iff.symm
def Ingot.cells (x : Ingot) : List PV := [.str x.id, .int .i64 x.mass, .int .i64 x.alloyCopper, .int .i64 x.alloyTin, .int .i64 x.alloyOther]
def Ingot.rows (l : List Ingot) : List (List PV) := l.map Ingot.cells
/-- What the laws count of a value. -/
def Ingot.sz (x : Ingot) : Nat := x.id.length
def Ingot.szS (l : List Ingot) : Nat := l.length + (l.map Ingot.sz).sum
/-- The values that arguments have. -/
def Ingot.wf (x : Ingot) : Prop := x.id.length ≤ 9223372036854775807 ∧ -9223372036854775808 ≤ x.mass ∧ x.mass ≤ 9223372036854775807 ∧ -9223372036854775808 ≤ x.alloyCopper ∧ x.alloyCopper ≤ 9223372036854775807 ∧ -9223372036854775808 ≤ x.alloyTin ∧ x.alloyTin ≤ 9223372036854775807 ∧ -9223372036854775808 ≤ x.alloyOther ∧ x.alloyOther ≤ 9223372036854775807
theorem Ingot.fits {cs : List PV} (h : fitsL [.str, .int .i64, .int .i64, .int .i64, .int .i64] cs) : ∃ x : Ingot, cs = x.cells ∧ x.wf := by
  obtain ⟨_, _, rfl, h0, h⟩ := fitsL_cons h
  obtain ⟨_, _, rfl, h1, h⟩ := fitsL_cons h
  obtain ⟨_, _, rfl, h2, h⟩ := fitsL_cons h
  obtain ⟨_, _, rfl, h3, h⟩ := fitsL_cons h
  obtain ⟨_, _, rfl, h4, h⟩ := fitsL_cons h
  obtain rfl := fitsL_nil h
  obtain ⟨v0, rfl, w0⟩ := fits_str h0
  obtain ⟨v1, rfl, w1⟩ := fits_int h1
  obtain ⟨v2, rfl, w2⟩ := fits_int h2
  obtain ⟨v3, rfl, w3⟩ := fits_int h3
  obtain ⟨v4, rfl, w4⟩ := fits_int h4
  exact ⟨⟨v0, v1, v2, v3, v4⟩, rfl, w0, (lit64 w1).1, (lit64 w1).2, (lit64 w2).1, (lit64 w2).2, (lit64 w3).1, (lit64 w3).2, (lit64 w4).1, (lit64 w4).2⟩
theorem Ingot.fitsS {rows : List (List PV)} (h : ∀ r ∈ rows, fitsL [.str, .int .i64, .int .i64, .int .i64, .int .i64] r) : ∃ l : List Ingot, rows = Ingot.rows l ∧ ∀ x ∈ l, x.wf := list_of fun r hr => Ingot.fits (h r hr)
theorem Ingot.flat (l : List Ingot) : flatRows (Ingot.rows l) := fun r hr c hc => by
  obtain ⟨x, _, rfl⟩ := List.mem_map.1 hr
  simp only [Ingot.cells, List.mem_cons, List.not_mem_nil, or_false] at hc
  rcases hc with rfl | rfl | rfl | rfl | rfl <;> rfl
theorem Ingot.rows_len (l : List Ingot) : (Ingot.rows l).length = l.length := by simp [Ingot.rows]
theorem Ingot.one (l : List Ingot) : Go.Ab.rowsOne (Ingot.rows l) := fun r hr => by obtain ⟨x, _, rfl⟩ := List.mem_map.1 hr; rfl
theorem c_szIngot (x : Ingot) (left : Nat) (hl : left ≤ 1048576) (hx : x.wf) : HFn Tryz.prog 66 [.agg x.cells, .int .i64 left] [] (.int .i64 (szR x.sz left)) [] := by
  unfold Ingot.wf at hx
  refine hfn_intro hm Tryz.func66 (by kernel_rfl) rfl (by kernel_rfl) rfl ret0_ok ?_
  simp [Ingot.cells, Ingot.sz]
  rw [w64 (n := (left : Int) - x.id.length) (by omega) (by omega)]
  refine ⟨fun h => by rw [szR_neg (by omega)], fun h => by rw [szR_pos (by omega)]⟩
theorem c_szIngotS (l : List Ingot) (left : Nat) (hl : left ≤ 1048576) (hlen : l.length ≤ 9223372036854775807) (hx : ∀ x ∈ l, x.wf) : HFn Tryz.prog 19 [.sl 5 (Ingot.rows l), .int .i64 left] [] (.int .i64 (szR (Ingot.szS l) left)) [] := by
  refine hfn_intro hm Tryz.func19 (by kernel_rfl) rfl (by kernel_rfl) rfl ret0_ok ?_
  simp [Ingot.rows]
  rw [w64 (n := (left : Int) - l.length) (by omega) (by omega)]
  refine ⟨fun h => by rw [szR_neg (by unfold Ingot.szS; omega)], fun h => ?_⟩
  refine loop_upto hm l.length (fun i => ⟨[(0, .sl 5 (Ingot.rows l)), (1, .int .i64 (left - l.length - sumT Ingot.sz l i)), (5, .int .i64 i)], []⟩) (fun i => l.length + sumT Ingot.sz l i ≤ left) (by kernel_rfl) ?_ (by rw [sumT_zero]; omega) (fun i hi hI => ?_) (fun hI => ?_)
  · exact Wk.weak (ρ := []) (φ := []) (by simp [Ingot.rows, sumT_zero])
  · have ea := List.getElem?_eq_getElem hi
    have es := sumT_succ Ingot.sz hi
    have hle := sumT_le Ingot.sz l (i + 1)
    have e1 : (left : Int) - l.length - sumT Ingot.sz l i = ((left - l.length - sumT Ingot.sz l i : Nat) : Int) := by omega
    rw [e1]
    simp [Ingot.rows, hi]
    refine CallZ.use0 (c_szIngot l[i] _ (by omega) (hx _ (List.getElem_mem hi))) rfl rfl ?_
    simp
    refine ⟨fun h => ?_, fun h => ?_⟩
    · have := szR_lt h
      rw [szR_neg (by unfold Ingot.szS; omega)]
    · have hh := szR_ge h
      refine ⟨by omega, ?_⟩
      refine Wk.weak (ρ := []) (φ := []) ?_
      simp
      rw [w64 (by omega) (by omega), szR_pos hh]
      omega
  · simp [Ingot.rows]
    rw [sumT_len] at hI ⊢
    rw [szR_pos (by unfold Ingot.szS; omega)]
    unfold Ingot.szS
    omega
theorem c_toIngot (x : Ingot) : HFn Tryz.prog 78 [.agg x.cells] [] (.agg x.cells) [] := by
  refine hfn_intro hm Tryz.func78 (by kernel_rfl) rfl (by kernel_rfl) rfl ret0_ok ?_
  simp [Ingot.cells]
  refine CallZ.use0 (c_toAlloy ⟨x.alloyCopper, x.alloyTin, x.alloyOther⟩) rfl rfl ?_
  simp [Alloy.cells]
theorem c_toIngotS (l : List Ingot) (hl : l.length ≤ 1048576) : HFn Tryz.prog 29 [.sl 5 (Ingot.rows l)] [] (.sf 0 5) [some (.arr 5 (Ingot.rows l))] := by
  refine hfn_intro hm Tryz.func29 (by kernel_rfl) rfl (by kernel_rfl) rfl (retN_ok (ρ := [0]) (φ := [])) ?_
  simp [Ingot.rows]
  refine ⟨by omega, by omega, ?_⟩
  refine loop_upto hm l.length (fun i => ⟨[(0, .sl 5 (Ingot.rows l)), (3, .sf 0 5), (4, .int .i64 i)], [some (.arr 5 ((l.take i).map Ingot.cells ++ List.replicate (l.length - i) [.str [], .int .i64 0, .int .i64 0, .int .i64 0, .int .i64 0]))]⟩) (fun _ => True) (by kernel_rfl) ?_ trivial (fun i hi _ => ?_) (fun _ => ?_)
  · exact Wk.weak (ρ := [0]) (φ := []) (by simp [Ingot.rows])
  · obtain ⟨X, hX, hXl, hXg⟩ := filled Ingot.cells l [.str [], .int .i64 0, .int .i64 0, .int .i64 0, .int .i64 0] hi
    rw [hX]
    have ea := List.getElem?_eq_getElem hi
    simp [Ingot.rows, hi]
    refine CallZ.use0 (c_toIngot _) rfl rfl ?_
    simp [Ingot.cells, hi, hXl, hXg]
    refine Wk.weak (ρ := [0]) (φ := []) ?_
    simp
    rw [w64 (by omega) (by omega), ← hX]
    exact ⟨rfl, filled_next Ingot.cells l [.str [], .int .i64 0, .int .i64 0, .int .i64 0, .int .i64 0] hi⟩
  · simp [Ingot.rows]
theorem c_toIngotSF (l : List Ingot) (hl : l.length ≤ 1048576) : HFn Tryz.prog 29 [.sl 5 (Ingot.rows l)] [] (.sl 5 (Ingot.rows l)) [] := (c_toIngotS l hl).less (Wk.weak (ρ := []) (φ := [0]) (by simp))
theorem c_eqIngot (a b : Ingot) : HFn Tryz.prog 92 [.agg a.cells, .agg b.cells] [] (.bool (decide (a = b))) [] := by
  refine hfn_intro hm Tryz.func92 (by kernel_rfl) rfl (by kernel_rfl) rfl ret0_ok ?_
  by_cases h0 : a.id = b.id
  rotate_left
  · simp [Ingot.cells, Ingot.eq_iff, h0]
  by_cases h1 : a.mass = b.mass
  rotate_left
  · simp [Ingot.cells, Ingot.eq_iff, h0, h1]
  simp [Ingot.cells, Ingot.eq_iff, h0, h1]
  refine CallZ.use0 (c_eqAlloy ⟨a.alloyCopper, a.alloyTin, a.alloyOther⟩ ⟨b.alloyCopper, b.alloyTin, b.alloyOther⟩) rfl rfl ?_
  simp [Alloy.eq_iff]
  try grind
theorem c_eqIngotS (a b : List Ingot) (ha : a.length ≤ 9223372036854775807) : HFn Tryz.prog 42 [.sl 5 (Ingot.rows a), .sl 5 (Ingot.rows b)] [] (.bool (decide (a = b))) [] := by
  refine hfn_intro hm Tryz.func42 (by kernel_rfl) rfl (by kernel_rfl) rfl ret0_ok ?_
  simp [Ingot.rows]
  refine ⟨fun h => ?_, fun h => ?_⟩
  · exact fun e => h (by rw [e])
  · refine loop_upto hm a.length (fun i => ⟨[(0, .sl 5 (Ingot.rows a)), (1, .sl 5 (Ingot.rows b)), (5, .int .i64 i)], []⟩) (fun i => a.take i = b.take i) (by kernel_rfl) ?_ (by simp) (fun i hi hI => ?_) (fun hI => ?_)
    · exact Wk.weak (ρ := []) (φ := []) (by simp [Ingot.rows])
    · have hl : a.length = b.length := by omega
      have ea := List.getElem?_eq_getElem hi
      have hi' : i < b.length := by omega
      have eb := List.getElem?_eq_getElem hi'
      simp [Ingot.rows, hi, hi']
      refine CallZ.use0 (c_eqIngot a[i] b[i]) rfl rfl ?_
      simp
      refine ⟨fun h e => h (by simp [e]), fun h => ⟨take_succ_eq hI ea eb h, ?_⟩⟩
      refine Wk.weak (ρ := []) (φ := []) ?_
      simp
      exact w64 (by omega) (by omega)
    · simp [Ingot.rows]
      exact eq_of_take hI (by omega)
/-- A value that the laws have marked, from number k on. -/
def Ingot.mark (k : Int) : Ingot := ⟨markT k, k + 1, k + 1 + 1, k + 1 + 1 + 1, k + 1 + 1 + 1 + 1⟩
def Ingot.marks (k : Int) (n : Nat) : List Ingot := (List.range n).map fun i : Nat => Ingot.mark (k + 5 * i)
theorem Ingot.marks_len (k : Int) (n : Nat) : (Ingot.marks k n).length = n := by simp [Ingot.marks]
theorem c_markIngotS (l : List Ingot) (k : Int) (hk : 0 ≤ k) (ha : 5 * l.length + k ≤ 1000000000) : MFn Tryz.prog 52 [.sf 0 5, .int .i64 k] [some (.arr 5 (Ingot.rows l))] [0] (.int .i64 (k + 5 * l.length)) [some (.arr 5 (Ingot.rows (Ingot.marks k l.length)))] := by
  refine mfn_intro [0] hm Tryz.func52 (by kernel_rfl) rfl (by kernel_rfl) rfl (retM_ok (ρ := [0]) (φ := [])) (by simp [Ingot.rows, Ingot.marks]) ?_
  simp
  refine loop_upto hm l.length (fun i => ⟨[(0, .sf 0 5), (1, .int .i64 (k + 5 * i)), (5, .int .i64 i), (52, .own 0)], [some (.arr 5 (Ingot.rows (Ingot.marks k i ++ l.drop i)))]⟩) (fun _ => True) (by kernel_rfl) ?_ trivial (fun i hi _ => ?_) (fun _ => ?_)
  · refine Wk.weak (ρ := [0]) (φ := []) ?_
    simp [Ingot.rows, Ingot.marks]
  · obtain ⟨X, hX, hl, hg⟩ := marked (fun j : Nat => Ingot.mark (k + 5 * j)) l hi
    rw [show Ingot.marks k i ++ l.drop i = X from hX]
    simp [Ingot.rows, hl, hi]
    refine CallZ.use0 (c_markText _ (by omega)) rfl rfl ?_
    simp [Ingot.cells, hl, hg, hi]
    rw [w64 (n := k + 5 * (i : Int) + 1) (by omega) (by omega)]
    rw [w64 (n := k + 5 * (i : Int) + 1 + 1) (by omega) (by omega)]
    rw [w64 (n := k + 5 * (i : Int) + 1 + 1 + 1) (by omega) (by omega)]
    rw [w64 (n := k + 5 * (i : Int) + 1 + 1 + 1 + 1) (by omega) (by omega)]
    rw [w64 (n := k + 5 * (i : Int) + 1 + 1 + 1 + 1 + 1) (by omega) (by omega)]
    refine Wk.weak (ρ := [0]) (φ := []) ?_
    simp
    rw [w64 (by omega) (by omega), ← hX]
    refine ⟨by omega, ?_⟩
    exact marked_next Ingot.cells (fun j : Nat => Ingot.mark (k + 5 * j)) l hi
  · simp [Ingot.rows, Ingot.marks]
end Go.Proofs.YtaidbadmhepccaaGreatDoor

namespace Go.Proofs.YtaidbadmhepccaaGreatDoor
open Go Go.Ab

set_option maxRecDepth 100000

structure Hung where
  bell : List UInt8
  mass : Int
  arm : Int
  form : Int
  angle : Int
theorem Hung.eq_iff {a b : Hung} : a = b ↔ a.bell = b.bell ∧ a.mass = b.mass ∧ a.arm = b.arm ∧ a.form = b.form ∧ a.angle = b.angle := by cases a; cases b; simp
instance : DecidableEq Hung := fun _ _ => decidable_of_iff _ Hung.eq_iff.symm
def Hung.cells (x : Hung) : List PV := [.str x.bell, .int .i64 x.mass, .int .i64 x.arm, .int .i64 x.form, .int .i64 x.angle]
def Hung.rows (l : List Hung) : List (List PV) := l.map Hung.cells
/-- What the laws count of a value. -/
def Hung.sz (x : Hung) : Nat := x.bell.length
def Hung.szS (l : List Hung) : Nat := l.length + (l.map Hung.sz).sum
/-- The values that arguments have. -/
def Hung.wf (x : Hung) : Prop := x.bell.length ≤ 9223372036854775807 ∧ -9223372036854775808 ≤ x.mass ∧ x.mass ≤ 9223372036854775807 ∧ -9223372036854775808 ≤ x.arm ∧ x.arm ≤ 9223372036854775807 ∧ -9223372036854775808 ≤ x.form ∧ x.form ≤ 9223372036854775807 ∧ -9223372036854775808 ≤ x.angle ∧ x.angle ≤ 9223372036854775807
theorem Hung.fits {cs : List PV} (h : fitsL [.str, .int .i64, .int .i64, .int .i64, .int .i64] cs) : ∃ x : Hung, cs = x.cells ∧ x.wf := by
  obtain ⟨_, _, rfl, h0, h⟩ := fitsL_cons h
  obtain ⟨_, _, rfl, h1, h⟩ := fitsL_cons h
  obtain ⟨_, _, rfl, h2, h⟩ := fitsL_cons h
  obtain ⟨_, _, rfl, h3, h⟩ := fitsL_cons h
  obtain ⟨_, _, rfl, h4, h⟩ := fitsL_cons h
  obtain rfl := fitsL_nil h
  obtain ⟨v0, rfl, w0⟩ := fits_str h0
  obtain ⟨v1, rfl, w1⟩ := fits_int h1
  obtain ⟨v2, rfl, w2⟩ := fits_int h2
  obtain ⟨v3, rfl, w3⟩ := fits_int h3
  obtain ⟨v4, rfl, w4⟩ := fits_int h4
  exact ⟨⟨v0, v1, v2, v3, v4⟩, rfl, w0, (lit64 w1).1, (lit64 w1).2, (lit64 w2).1, (lit64 w2).2, (lit64 w3).1, (lit64 w3).2, (lit64 w4).1, (lit64 w4).2⟩
theorem Hung.fitsS {rows : List (List PV)} (h : ∀ r ∈ rows, fitsL [.str, .int .i64, .int .i64, .int .i64, .int .i64] r) : ∃ l : List Hung, rows = Hung.rows l ∧ ∀ x ∈ l, x.wf := list_of fun r hr => Hung.fits (h r hr)
theorem Hung.flat (l : List Hung) : flatRows (Hung.rows l) := fun r hr c hc => by
  obtain ⟨x, _, rfl⟩ := List.mem_map.1 hr
  simp only [Hung.cells, List.mem_cons, List.not_mem_nil, or_false] at hc
  rcases hc with rfl | rfl | rfl | rfl | rfl <;> rfl
theorem Hung.rows_len (l : List Hung) : (Hung.rows l).length = l.length := by simp [Hung.rows]
theorem Hung.one (l : List Hung) : Go.Ab.rowsOne (Hung.rows l) := fun r hr => by obtain ⟨x, _, rfl⟩ := List.mem_map.1 hr; rfl
theorem c_szHung (x : Hung) (left : Nat) (hl : left ≤ 1048576) (hx : x.wf) : HFn Tryz.prog 69 [.agg x.cells, .int .i64 left] [] (.int .i64 (szR x.sz left)) [] := by
  unfold Hung.wf at hx
  refine hfn_intro hm Tryz.func69 (by kernel_rfl) rfl (by kernel_rfl) rfl ret0_ok ?_
  simp [Hung.cells, Hung.sz]
  rw [w64 (n := (left : Int) - x.bell.length) (by omega) (by omega)]
  refine ⟨fun h => by rw [szR_neg (by omega)], fun h => by rw [szR_pos (by omega)]⟩
theorem c_szHungS (l : List Hung) (left : Nat) (hl : left ≤ 1048576) (hlen : l.length ≤ 9223372036854775807) (hx : ∀ x ∈ l, x.wf) : HFn Tryz.prog 22 [.sl 5 (Hung.rows l), .int .i64 left] [] (.int .i64 (szR (Hung.szS l) left)) [] := by
  refine hfn_intro hm Tryz.func22 (by kernel_rfl) rfl (by kernel_rfl) rfl ret0_ok ?_
  simp [Hung.rows]
  rw [w64 (n := (left : Int) - l.length) (by omega) (by omega)]
  refine ⟨fun h => by rw [szR_neg (by unfold Hung.szS; omega)], fun h => ?_⟩
  refine loop_upto hm l.length (fun i => ⟨[(0, .sl 5 (Hung.rows l)), (1, .int .i64 (left - l.length - sumT Hung.sz l i)), (5, .int .i64 i)], []⟩) (fun i => l.length + sumT Hung.sz l i ≤ left) (by kernel_rfl) ?_ (by rw [sumT_zero]; omega) (fun i hi hI => ?_) (fun hI => ?_)
  · exact Wk.weak (ρ := []) (φ := []) (by simp [Hung.rows, sumT_zero])
  · have ea := List.getElem?_eq_getElem hi
    have es := sumT_succ Hung.sz hi
    have hle := sumT_le Hung.sz l (i + 1)
    have e1 : (left : Int) - l.length - sumT Hung.sz l i = ((left - l.length - sumT Hung.sz l i : Nat) : Int) := by omega
    rw [e1]
    simp [Hung.rows, hi]
    refine CallZ.use0 (c_szHung l[i] _ (by omega) (hx _ (List.getElem_mem hi))) rfl rfl ?_
    simp
    refine ⟨fun h => ?_, fun h => ?_⟩
    · have := szR_lt h
      rw [szR_neg (by unfold Hung.szS; omega)]
    · have hh := szR_ge h
      refine ⟨by omega, ?_⟩
      refine Wk.weak (ρ := []) (φ := []) ?_
      simp
      rw [w64 (by omega) (by omega), szR_pos hh]
      omega
  · simp [Hung.rows]
    rw [sumT_len] at hI ⊢
    rw [szR_pos (by unfold Hung.szS; omega)]
    unfold Hung.szS
    omega
theorem c_toHung (x : Hung) : HFn Tryz.prog 81 [.agg x.cells] [] (.agg x.cells) [] := by
  refine hfn_intro hm Tryz.func81 (by kernel_rfl) rfl (by kernel_rfl) rfl ret0_ok ?_
  simp [Hung.cells]
theorem c_toHungS (l : List Hung) (hl : l.length ≤ 1048576) : HFn Tryz.prog 32 [.sl 5 (Hung.rows l)] [] (.sf 0 5) [some (.arr 5 (Hung.rows l))] := by
  refine hfn_intro hm Tryz.func32 (by kernel_rfl) rfl (by kernel_rfl) rfl (retN_ok (ρ := [0]) (φ := [])) ?_
  simp [Hung.rows]
  refine ⟨by omega, by omega, ?_⟩
  refine loop_upto hm l.length (fun i => ⟨[(0, .sl 5 (Hung.rows l)), (3, .sf 0 5), (4, .int .i64 i)], [some (.arr 5 ((l.take i).map Hung.cells ++ List.replicate (l.length - i) [.str [], .int .i64 0, .int .i64 0, .int .i64 0, .int .i64 0]))]⟩) (fun _ => True) (by kernel_rfl) ?_ trivial (fun i hi _ => ?_) (fun _ => ?_)
  · exact Wk.weak (ρ := [0]) (φ := []) (by simp [Hung.rows])
  · obtain ⟨X, hX, hXl, hXg⟩ := filled Hung.cells l [.str [], .int .i64 0, .int .i64 0, .int .i64 0, .int .i64 0] hi
    rw [hX]
    have ea := List.getElem?_eq_getElem hi
    simp [Hung.rows, hi]
    refine CallZ.use0 (c_toHung _) rfl rfl ?_
    simp [Hung.cells, hi, hXl, hXg]
    refine Wk.weak (ρ := [0]) (φ := []) ?_
    simp
    rw [w64 (by omega) (by omega), ← hX]
    exact ⟨rfl, filled_next Hung.cells l [.str [], .int .i64 0, .int .i64 0, .int .i64 0, .int .i64 0] hi⟩
  · simp [Hung.rows]
theorem c_toHungSF (l : List Hung) (hl : l.length ≤ 1048576) : HFn Tryz.prog 32 [.sl 5 (Hung.rows l)] [] (.sl 5 (Hung.rows l)) [] := (c_toHungS l hl).less (Wk.weak (ρ := []) (φ := [0]) (by simp))
theorem c_eqHung (a b : Hung) : HFn Tryz.prog 95 [.agg a.cells, .agg b.cells] [] (.bool (decide (a = b))) [] := by
  refine hfn_intro hm Tryz.func95 (by kernel_rfl) rfl (by kernel_rfl) rfl ret0_ok ?_
  simp [Hung.cells, Hung.eq_iff]
  grind
theorem c_eqHungS (a b : List Hung) (ha : a.length ≤ 9223372036854775807) : HFn Tryz.prog 45 [.sl 5 (Hung.rows a), .sl 5 (Hung.rows b)] [] (.bool (decide (a = b))) [] := by
  refine hfn_intro hm Tryz.func45 (by kernel_rfl) rfl (by kernel_rfl) rfl ret0_ok ?_
  simp [Hung.rows]
  refine ⟨fun h => ?_, fun h => ?_⟩
  · exact fun e => h (by rw [e])
  · refine loop_upto hm a.length (fun i => ⟨[(0, .sl 5 (Hung.rows a)), (1, .sl 5 (Hung.rows b)), (5, .int .i64 i)], []⟩) (fun i => a.take i = b.take i) (by kernel_rfl) ?_ (by simp) (fun i hi hI => ?_) (fun hI => ?_)
    · exact Wk.weak (ρ := []) (φ := []) (by simp [Hung.rows])
    · have hl : a.length = b.length := by omega
      have ea := List.getElem?_eq_getElem hi
      have hi' : i < b.length := by omega
      have eb := List.getElem?_eq_getElem hi'
      simp [Hung.rows, hi, hi']
      refine CallZ.use0 (c_eqHung a[i] b[i]) rfl rfl ?_
      simp
      refine ⟨fun h e => h (by simp [e]), fun h => ⟨take_succ_eq hI ea eb h, ?_⟩⟩
      refine Wk.weak (ρ := []) (φ := []) ?_
      simp
      exact w64 (by omega) (by omega)
    · simp [Hung.rows]
      exact eq_of_take hI (by omega)
/-- A value that the laws have marked, from number k on. -/
def Hung.mark (k : Int) : Hung := ⟨markT k, k + 1, k + 1 + 1, k + 1 + 1 + 1, k + 1 + 1 + 1 + 1⟩
def Hung.marks (k : Int) (n : Nat) : List Hung := (List.range n).map fun i : Nat => Hung.mark (k + 5 * i)
theorem Hung.marks_len (k : Int) (n : Nat) : (Hung.marks k n).length = n := by simp [Hung.marks]
theorem c_markHungS (l : List Hung) (k : Int) (hk : 0 ≤ k) (ha : 5 * l.length + k ≤ 1000000000) : MFn Tryz.prog 55 [.sf 0 5, .int .i64 k] [some (.arr 5 (Hung.rows l))] [0] (.int .i64 (k + 5 * l.length)) [some (.arr 5 (Hung.rows (Hung.marks k l.length)))] := by
  refine mfn_intro [0] hm Tryz.func55 (by kernel_rfl) rfl (by kernel_rfl) rfl (retM_ok (ρ := [0]) (φ := [])) (by simp [Hung.rows, Hung.marks]) ?_
  simp
  refine loop_upto hm l.length (fun i => ⟨[(0, .sf 0 5), (1, .int .i64 (k + 5 * i)), (5, .int .i64 i), (49, .own 0)], [some (.arr 5 (Hung.rows (Hung.marks k i ++ l.drop i)))]⟩) (fun _ => True) (by kernel_rfl) ?_ trivial (fun i hi _ => ?_) (fun _ => ?_)
  · refine Wk.weak (ρ := [0]) (φ := []) ?_
    simp [Hung.rows, Hung.marks]
  · obtain ⟨X, hX, hl, hg⟩ := marked (fun j : Nat => Hung.mark (k + 5 * j)) l hi
    rw [show Hung.marks k i ++ l.drop i = X from hX]
    simp [Hung.rows, hl, hi]
    refine CallZ.use0 (c_markText _ (by omega)) rfl rfl ?_
    simp [Hung.cells, hl, hg, hi]
    rw [w64 (n := k + 5 * (i : Int) + 1) (by omega) (by omega)]
    rw [w64 (n := k + 5 * (i : Int) + 1 + 1) (by omega) (by omega)]
    rw [w64 (n := k + 5 * (i : Int) + 1 + 1 + 1) (by omega) (by omega)]
    rw [w64 (n := k + 5 * (i : Int) + 1 + 1 + 1 + 1) (by omega) (by omega)]
    rw [w64 (n := k + 5 * (i : Int) + 1 + 1 + 1 + 1 + 1) (by omega) (by omega)]
    refine Wk.weak (ρ := [0]) (φ := []) ?_
    simp
    rw [w64 (by omega) (by omega), ← hX]
    refine ⟨by omega, ?_⟩
    exact marked_next Hung.cells (fun j : Nat => Hung.mark (k + 5 * j)) l hi
  · simp [Hung.rows, Hung.marks]
end Go.Proofs.YtaidbadmhepccaaGreatDoor

namespace Go.Proofs.YtaidbadmhepccaaGreatDoor
open Go Go.Ab

set_option maxRecDepth 100000

structure Chamber where
  width : Int
  length : Int
  height : Int
theorem Chamber.eq_iff {a b : Chamber} : a = b ↔ a.width = b.width ∧ a.length = b.length ∧ a.height = b.height := by cases a; cases b; simp
instance : DecidableEq Chamber := fun _ _ => decidable_of_iff _ Chamber.eq_iff.symm
def Chamber.cells (x : Chamber) : List PV := [.int .i64 x.width, .int .i64 x.length, .int .i64 x.height]
def Chamber.rows (l : List Chamber) : List (List PV) := l.map Chamber.cells
/-- What the laws count of a value. -/
def Chamber.sz (_ : Chamber) : Nat := 0
def Chamber.szS (l : List Chamber) : Nat := l.length + (l.map Chamber.sz).sum
/-- The values that arguments have. -/
def Chamber.wf (x : Chamber) : Prop := -9223372036854775808 ≤ x.width ∧ x.width ≤ 9223372036854775807 ∧ -9223372036854775808 ≤ x.length ∧ x.length ≤ 9223372036854775807 ∧ -9223372036854775808 ≤ x.height ∧ x.height ≤ 9223372036854775807
theorem Chamber.fits {cs : List PV} (h : fitsL [.int .i64, .int .i64, .int .i64] cs) : ∃ x : Chamber, cs = x.cells ∧ x.wf := by
  obtain ⟨_, _, rfl, h0, h⟩ := fitsL_cons h
  obtain ⟨_, _, rfl, h1, h⟩ := fitsL_cons h
  obtain ⟨_, _, rfl, h2, h⟩ := fitsL_cons h
  obtain rfl := fitsL_nil h
  obtain ⟨v0, rfl, w0⟩ := fits_int h0
  obtain ⟨v1, rfl, w1⟩ := fits_int h1
  obtain ⟨v2, rfl, w2⟩ := fits_int h2
  exact ⟨⟨v0, v1, v2⟩, rfl, (lit64 w0).1, (lit64 w0).2, (lit64 w1).1, (lit64 w1).2, (lit64 w2).1, (lit64 w2).2⟩
theorem Chamber.fitsS {rows : List (List PV)} (h : ∀ r ∈ rows, fitsL [.int .i64, .int .i64, .int .i64] r) : ∃ l : List Chamber, rows = Chamber.rows l ∧ ∀ x ∈ l, x.wf := list_of fun r hr => Chamber.fits (h r hr)
theorem Chamber.flat (l : List Chamber) : flatRows (Chamber.rows l) := fun r hr c hc => by
  obtain ⟨x, _, rfl⟩ := List.mem_map.1 hr
  simp only [Chamber.cells, List.mem_cons, List.not_mem_nil, or_false] at hc
  rcases hc with rfl | rfl | rfl <;> rfl
theorem Chamber.rows_len (l : List Chamber) : (Chamber.rows l).length = l.length := by simp [Chamber.rows]
theorem Chamber.one (l : List Chamber) : Go.Ab.rowsOne (Chamber.rows l) := fun r hr => by obtain ⟨x, _, rfl⟩ := List.mem_map.1 hr; rfl
theorem c_toChamber (x : Chamber) : HFn Tryz.prog 33 [.agg x.cells] [] (.agg x.cells) [] := by
  refine hfn_intro hm Tryz.func33 (by kernel_rfl) rfl (by kernel_rfl) rfl ret0_ok ?_
  simp [Chamber.cells]
theorem c_eqChamber (a b : Chamber) : HFn Tryz.prog 46 [.agg a.cells, .agg b.cells] [] (.bool (decide (a = b))) [] := by
  refine hfn_intro hm Tryz.func46 (by kernel_rfl) rfl (by kernel_rfl) rfl ret0_ok ?_
  simp [Chamber.cells, Chamber.eq_iff]
  grind
end Go.Proofs.YtaidbadmhepccaaGreatDoor

namespace Go.Proofs.YtaidbadmhepccaaGreatDoor
open Go Go.Ab

set_option maxRecDepth 100000

structure Place where
  bell : List UInt8
  x : Int
  y : Int
  z : Int
  reach : Int
theorem Place.eq_iff {a b : Place} : a = b ↔ a.bell = b.bell ∧ a.x = b.x ∧ a.y = b.y ∧ a.z = b.z ∧ a.reach = b.reach := by cases a; cases b; simp
instance : DecidableEq Place := fun _ _ => decidable_of_iff _ Place.eq_iff.symm
def Place.cells (x : Place) : List PV := [.str x.bell, .int .i64 x.x, .int .i64 x.y, .int .i64 x.z, .int .i64 x.reach]
def Place.rows (l : List Place) : List (List PV) := l.map Place.cells
/-- What the laws count of a value. -/
def Place.sz (x : Place) : Nat := x.bell.length
def Place.szS (l : List Place) : Nat := l.length + (l.map Place.sz).sum
/-- The values that arguments have. -/
def Place.wf (x : Place) : Prop := x.bell.length ≤ 9223372036854775807 ∧ -9223372036854775808 ≤ x.x ∧ x.x ≤ 9223372036854775807 ∧ -9223372036854775808 ≤ x.y ∧ x.y ≤ 9223372036854775807 ∧ -9223372036854775808 ≤ x.z ∧ x.z ≤ 9223372036854775807 ∧ -9223372036854775808 ≤ x.reach ∧ x.reach ≤ 9223372036854775807
theorem Place.fits {cs : List PV} (h : fitsL [.str, .int .i64, .int .i64, .int .i64, .int .i64] cs) : ∃ x : Place, cs = x.cells ∧ x.wf := by
  obtain ⟨_, _, rfl, h0, h⟩ := fitsL_cons h
  obtain ⟨_, _, rfl, h1, h⟩ := fitsL_cons h
  obtain ⟨_, _, rfl, h2, h⟩ := fitsL_cons h
  obtain ⟨_, _, rfl, h3, h⟩ := fitsL_cons h
  obtain ⟨_, _, rfl, h4, h⟩ := fitsL_cons h
  obtain rfl := fitsL_nil h
  obtain ⟨v0, rfl, w0⟩ := fits_str h0
  obtain ⟨v1, rfl, w1⟩ := fits_int h1
  obtain ⟨v2, rfl, w2⟩ := fits_int h2
  obtain ⟨v3, rfl, w3⟩ := fits_int h3
  obtain ⟨v4, rfl, w4⟩ := fits_int h4
  exact ⟨⟨v0, v1, v2, v3, v4⟩, rfl, w0, (lit64 w1).1, (lit64 w1).2, (lit64 w2).1, (lit64 w2).2, (lit64 w3).1, (lit64 w3).2, (lit64 w4).1, (lit64 w4).2⟩
theorem Place.fitsS {rows : List (List PV)} (h : ∀ r ∈ rows, fitsL [.str, .int .i64, .int .i64, .int .i64, .int .i64] r) : ∃ l : List Place, rows = Place.rows l ∧ ∀ x ∈ l, x.wf := list_of fun r hr => Place.fits (h r hr)
theorem Place.flat (l : List Place) : flatRows (Place.rows l) := fun r hr c hc => by
  obtain ⟨x, _, rfl⟩ := List.mem_map.1 hr
  simp only [Place.cells, List.mem_cons, List.not_mem_nil, or_false] at hc
  rcases hc with rfl | rfl | rfl | rfl | rfl <;> rfl
theorem Place.rows_len (l : List Place) : (Place.rows l).length = l.length := by simp [Place.rows]
theorem Place.one (l : List Place) : Go.Ab.rowsOne (Place.rows l) := fun r hr => by obtain ⟨x, _, rfl⟩ := List.mem_map.1 hr; rfl
theorem c_szPlace (x : Place) (left : Nat) (hl : left ≤ 1048576) (hx : x.wf) : HFn Tryz.prog 70 [.agg x.cells, .int .i64 left] [] (.int .i64 (szR x.sz left)) [] := by
  unfold Place.wf at hx
  refine hfn_intro hm Tryz.func70 (by kernel_rfl) rfl (by kernel_rfl) rfl ret0_ok ?_
  simp [Place.cells, Place.sz]
  rw [w64 (n := (left : Int) - x.bell.length) (by omega) (by omega)]
  refine ⟨fun h => by rw [szR_neg (by omega)], fun h => by rw [szR_pos (by omega)]⟩
theorem c_szPlaceS (l : List Place) (left : Nat) (hl : left ≤ 1048576) (hlen : l.length ≤ 9223372036854775807) (hx : ∀ x ∈ l, x.wf) : HFn Tryz.prog 23 [.sl 5 (Place.rows l), .int .i64 left] [] (.int .i64 (szR (Place.szS l) left)) [] := by
  refine hfn_intro hm Tryz.func23 (by kernel_rfl) rfl (by kernel_rfl) rfl ret0_ok ?_
  simp [Place.rows]
  rw [w64 (n := (left : Int) - l.length) (by omega) (by omega)]
  refine ⟨fun h => by rw [szR_neg (by unfold Place.szS; omega)], fun h => ?_⟩
  refine loop_upto hm l.length (fun i => ⟨[(0, .sl 5 (Place.rows l)), (1, .int .i64 (left - l.length - sumT Place.sz l i)), (5, .int .i64 i)], []⟩) (fun i => l.length + sumT Place.sz l i ≤ left) (by kernel_rfl) ?_ (by rw [sumT_zero]; omega) (fun i hi hI => ?_) (fun hI => ?_)
  · exact Wk.weak (ρ := []) (φ := []) (by simp [Place.rows, sumT_zero])
  · have ea := List.getElem?_eq_getElem hi
    have es := sumT_succ Place.sz hi
    have hle := sumT_le Place.sz l (i + 1)
    have e1 : (left : Int) - l.length - sumT Place.sz l i = ((left - l.length - sumT Place.sz l i : Nat) : Int) := by omega
    rw [e1]
    simp [Place.rows, hi]
    refine CallZ.use0 (c_szPlace l[i] _ (by omega) (hx _ (List.getElem_mem hi))) rfl rfl ?_
    simp
    refine ⟨fun h => ?_, fun h => ?_⟩
    · have := szR_lt h
      rw [szR_neg (by unfold Place.szS; omega)]
    · have hh := szR_ge h
      refine ⟨by omega, ?_⟩
      refine Wk.weak (ρ := []) (φ := []) ?_
      simp
      rw [w64 (by omega) (by omega), szR_pos hh]
      omega
  · simp [Place.rows]
    rw [sumT_len] at hI ⊢
    rw [szR_pos (by unfold Place.szS; omega)]
    unfold Place.szS
    omega
theorem c_toPlace (x : Place) : HFn Tryz.prog 82 [.agg x.cells] [] (.agg x.cells) [] := by
  refine hfn_intro hm Tryz.func82 (by kernel_rfl) rfl (by kernel_rfl) rfl ret0_ok ?_
  simp [Place.cells]
theorem c_toPlaceS (l : List Place) (hl : l.length ≤ 1048576) : HFn Tryz.prog 34 [.sl 5 (Place.rows l)] [] (.sf 0 5) [some (.arr 5 (Place.rows l))] := by
  refine hfn_intro hm Tryz.func34 (by kernel_rfl) rfl (by kernel_rfl) rfl (retN_ok (ρ := [0]) (φ := [])) ?_
  simp [Place.rows]
  refine ⟨by omega, by omega, ?_⟩
  refine loop_upto hm l.length (fun i => ⟨[(0, .sl 5 (Place.rows l)), (3, .sf 0 5), (4, .int .i64 i)], [some (.arr 5 ((l.take i).map Place.cells ++ List.replicate (l.length - i) [.str [], .int .i64 0, .int .i64 0, .int .i64 0, .int .i64 0]))]⟩) (fun _ => True) (by kernel_rfl) ?_ trivial (fun i hi _ => ?_) (fun _ => ?_)
  · exact Wk.weak (ρ := [0]) (φ := []) (by simp [Place.rows])
  · obtain ⟨X, hX, hXl, hXg⟩ := filled Place.cells l [.str [], .int .i64 0, .int .i64 0, .int .i64 0, .int .i64 0] hi
    rw [hX]
    have ea := List.getElem?_eq_getElem hi
    simp [Place.rows, hi]
    refine CallZ.use0 (c_toPlace _) rfl rfl ?_
    simp [Place.cells, hi, hXl, hXg]
    refine Wk.weak (ρ := [0]) (φ := []) ?_
    simp
    rw [w64 (by omega) (by omega), ← hX]
    exact ⟨rfl, filled_next Place.cells l [.str [], .int .i64 0, .int .i64 0, .int .i64 0, .int .i64 0] hi⟩
  · simp [Place.rows]
theorem c_toPlaceSF (l : List Place) (hl : l.length ≤ 1048576) : HFn Tryz.prog 34 [.sl 5 (Place.rows l)] [] (.sl 5 (Place.rows l)) [] := (c_toPlaceS l hl).less (Wk.weak (ρ := []) (φ := [0]) (by simp))
theorem c_eqPlace (a b : Place) : HFn Tryz.prog 96 [.agg a.cells, .agg b.cells] [] (.bool (decide (a = b))) [] := by
  refine hfn_intro hm Tryz.func96 (by kernel_rfl) rfl (by kernel_rfl) rfl ret0_ok ?_
  simp [Place.cells, Place.eq_iff]
  grind
theorem c_eqPlaceS (a b : List Place) (ha : a.length ≤ 9223372036854775807) : HFn Tryz.prog 47 [.sl 5 (Place.rows a), .sl 5 (Place.rows b)] [] (.bool (decide (a = b))) [] := by
  refine hfn_intro hm Tryz.func47 (by kernel_rfl) rfl (by kernel_rfl) rfl ret0_ok ?_
  simp [Place.rows]
  refine ⟨fun h => ?_, fun h => ?_⟩
  · exact fun e => h (by rw [e])
  · refine loop_upto hm a.length (fun i => ⟨[(0, .sl 5 (Place.rows a)), (1, .sl 5 (Place.rows b)), (5, .int .i64 i)], []⟩) (fun i => a.take i = b.take i) (by kernel_rfl) ?_ (by simp) (fun i hi hI => ?_) (fun hI => ?_)
    · exact Wk.weak (ρ := []) (φ := []) (by simp [Place.rows])
    · have hl : a.length = b.length := by omega
      have ea := List.getElem?_eq_getElem hi
      have hi' : i < b.length := by omega
      have eb := List.getElem?_eq_getElem hi'
      simp [Place.rows, hi, hi']
      refine CallZ.use0 (c_eqPlace a[i] b[i]) rfl rfl ?_
      simp
      refine ⟨fun h e => h (by simp [e]), fun h => ⟨take_succ_eq hI ea eb h, ?_⟩⟩
      refine Wk.weak (ρ := []) (φ := []) ?_
      simp
      exact w64 (by omega) (by omega)
    · simp [Place.rows]
      exact eq_of_take hI (by omega)
/-- A value that the laws have marked, from number k on. -/
def Place.mark (k : Int) : Place := ⟨markT k, k + 1, k + 1 + 1, k + 1 + 1 + 1, k + 1 + 1 + 1 + 1⟩
def Place.marks (k : Int) (n : Nat) : List Place := (List.range n).map fun i : Nat => Place.mark (k + 5 * i)
theorem Place.marks_len (k : Int) (n : Nat) : (Place.marks k n).length = n := by simp [Place.marks]
theorem c_markPlaceS (l : List Place) (k : Int) (hk : 0 ≤ k) (ha : 5 * l.length + k ≤ 1000000000) : MFn Tryz.prog 56 [.sf 0 5, .int .i64 k] [some (.arr 5 (Place.rows l))] [0] (.int .i64 (k + 5 * l.length)) [some (.arr 5 (Place.rows (Place.marks k l.length)))] := by
  refine mfn_intro [0] hm Tryz.func56 (by kernel_rfl) rfl (by kernel_rfl) rfl (retM_ok (ρ := [0]) (φ := [])) (by simp [Place.rows, Place.marks]) ?_
  simp
  refine loop_upto hm l.length (fun i => ⟨[(0, .sf 0 5), (1, .int .i64 (k + 5 * i)), (5, .int .i64 i), (49, .own 0)], [some (.arr 5 (Place.rows (Place.marks k i ++ l.drop i)))]⟩) (fun _ => True) (by kernel_rfl) ?_ trivial (fun i hi _ => ?_) (fun _ => ?_)
  · refine Wk.weak (ρ := [0]) (φ := []) ?_
    simp [Place.rows, Place.marks]
  · obtain ⟨X, hX, hl, hg⟩ := marked (fun j : Nat => Place.mark (k + 5 * j)) l hi
    rw [show Place.marks k i ++ l.drop i = X from hX]
    simp [Place.rows, hl, hi]
    refine CallZ.use0 (c_markText _ (by omega)) rfl rfl ?_
    simp [Place.cells, hl, hg, hi]
    rw [w64 (n := k + 5 * (i : Int) + 1) (by omega) (by omega)]
    rw [w64 (n := k + 5 * (i : Int) + 1 + 1) (by omega) (by omega)]
    rw [w64 (n := k + 5 * (i : Int) + 1 + 1 + 1) (by omega) (by omega)]
    rw [w64 (n := k + 5 * (i : Int) + 1 + 1 + 1 + 1) (by omega) (by omega)]
    rw [w64 (n := k + 5 * (i : Int) + 1 + 1 + 1 + 1 + 1) (by omega) (by omega)]
    refine Wk.weak (ρ := [0]) (φ := []) ?_
    simp
    rw [w64 (by omega) (by omega), ← hX]
    refine ⟨by omega, ?_⟩
    exact marked_next Place.cells (fun j : Nat => Place.mark (k + 5 * j)) l hi
  · simp [Place.rows, Place.marks]
end Go.Proofs.YtaidbadmhepccaaGreatDoor

namespace Go.Proofs.YtaidbadmhepccaaGreatDoor
open Go Go.Ab

set_option maxRecDepth 100000

structure Tower where
  name : List UInt8
  sway : Int
  damping : Int
  stiffness : Int
  limit : Int
theorem Tower.eq_iff {a b : Tower} : a = b ↔ a.name = b.name ∧ a.sway = b.sway ∧ a.damping = b.damping ∧ a.stiffness = b.stiffness ∧ a.limit = b.limit := by cases a; cases b; simp
instance : DecidableEq Tower := fun _ _ => decidable_of_iff _ Tower.eq_iff.symm
def Tower.cells (x : Tower) : List PV := [.str x.name, .int .i64 x.sway, .int .i64 x.damping, .int .i64 x.stiffness, .int .i64 x.limit]
def Tower.rows (l : List Tower) : List (List PV) := l.map Tower.cells
/-- What the laws count of a value. -/
def Tower.sz (x : Tower) : Nat := x.name.length
def Tower.szS (l : List Tower) : Nat := l.length + (l.map Tower.sz).sum
/-- The values that arguments have. -/
def Tower.wf (x : Tower) : Prop := x.name.length ≤ 9223372036854775807 ∧ -9223372036854775808 ≤ x.sway ∧ x.sway ≤ 9223372036854775807 ∧ -9223372036854775808 ≤ x.damping ∧ x.damping ≤ 9223372036854775807 ∧ -9223372036854775808 ≤ x.stiffness ∧ x.stiffness ≤ 9223372036854775807 ∧ -9223372036854775808 ≤ x.limit ∧ x.limit ≤ 9223372036854775807
theorem Tower.fits {cs : List PV} (h : fitsL [.str, .int .i64, .int .i64, .int .i64, .int .i64] cs) : ∃ x : Tower, cs = x.cells ∧ x.wf := by
  obtain ⟨_, _, rfl, h0, h⟩ := fitsL_cons h
  obtain ⟨_, _, rfl, h1, h⟩ := fitsL_cons h
  obtain ⟨_, _, rfl, h2, h⟩ := fitsL_cons h
  obtain ⟨_, _, rfl, h3, h⟩ := fitsL_cons h
  obtain ⟨_, _, rfl, h4, h⟩ := fitsL_cons h
  obtain rfl := fitsL_nil h
  obtain ⟨v0, rfl, w0⟩ := fits_str h0
  obtain ⟨v1, rfl, w1⟩ := fits_int h1
  obtain ⟨v2, rfl, w2⟩ := fits_int h2
  obtain ⟨v3, rfl, w3⟩ := fits_int h3
  obtain ⟨v4, rfl, w4⟩ := fits_int h4
  exact ⟨⟨v0, v1, v2, v3, v4⟩, rfl, w0, (lit64 w1).1, (lit64 w1).2, (lit64 w2).1, (lit64 w2).2, (lit64 w3).1, (lit64 w3).2, (lit64 w4).1, (lit64 w4).2⟩
theorem Tower.fitsS {rows : List (List PV)} (h : ∀ r ∈ rows, fitsL [.str, .int .i64, .int .i64, .int .i64, .int .i64] r) : ∃ l : List Tower, rows = Tower.rows l ∧ ∀ x ∈ l, x.wf := list_of fun r hr => Tower.fits (h r hr)
theorem Tower.flat (l : List Tower) : flatRows (Tower.rows l) := fun r hr c hc => by
  obtain ⟨x, _, rfl⟩ := List.mem_map.1 hr
  simp only [Tower.cells, List.mem_cons, List.not_mem_nil, or_false] at hc
  rcases hc with rfl | rfl | rfl | rfl | rfl <;> rfl
theorem Tower.rows_len (l : List Tower) : (Tower.rows l).length = l.length := by simp [Tower.rows]
theorem Tower.one (l : List Tower) : Go.Ab.rowsOne (Tower.rows l) := fun r hr => by obtain ⟨x, _, rfl⟩ := List.mem_map.1 hr; rfl
theorem c_szTower (x : Tower) (left : Nat) (hl : left ≤ 1048576) (hx : x.wf) : HFn Tryz.prog 24 [.agg x.cells, .int .i64 left] [] (.int .i64 (szR x.sz left)) [] := by
  unfold Tower.wf at hx
  refine hfn_intro hm Tryz.func24 (by kernel_rfl) rfl (by kernel_rfl) rfl ret0_ok ?_
  simp [Tower.cells, Tower.sz]
  rw [w64 (n := (left : Int) - x.name.length) (by omega) (by omega)]
  refine ⟨fun h => by rw [szR_neg (by omega)], fun h => by rw [szR_pos (by omega)]⟩
theorem c_toTower (x : Tower) : HFn Tryz.prog 35 [.agg x.cells] [] (.agg x.cells) [] := by
  refine hfn_intro hm Tryz.func35 (by kernel_rfl) rfl (by kernel_rfl) rfl ret0_ok ?_
  simp [Tower.cells]
theorem c_eqTower (a b : Tower) : HFn Tryz.prog 48 [.agg a.cells, .agg b.cells] [] (.bool (decide (a = b))) [] := by
  refine hfn_intro hm Tryz.func48 (by kernel_rfl) rfl (by kernel_rfl) rfl ret0_ok ?_
  simp [Tower.cells, Tower.eq_iff]
  grind
end Go.Proofs.YtaidbadmhepccaaGreatDoor

namespace Go.Proofs.YtaidbadmhepccaaGreatDoor
open Go Go.Ab

set_option maxRecDepth 100000

structure Share where
  melt : List UInt8
  mass : Int
theorem Share.eq_iff {a b : Share} : a = b ↔ a.melt = b.melt ∧ a.mass = b.mass := by cases a; cases b; simp
instance : DecidableEq Share := fun _ _ => decidable_of_iff _ Share.eq_iff.symm
def Share.cells (x : Share) : List PV := [.str x.melt, .int .i64 x.mass]
def Share.rows (l : List Share) : List (List PV) := l.map Share.cells
/-- What the laws count of a value. -/
def Share.sz (x : Share) : Nat := x.melt.length
def Share.szS (l : List Share) : Nat := l.length + (l.map Share.sz).sum
/-- The values that arguments have. -/
def Share.wf (x : Share) : Prop := x.melt.length ≤ 9223372036854775807 ∧ -9223372036854775808 ≤ x.mass ∧ x.mass ≤ 9223372036854775807
theorem Share.fits {cs : List PV} (h : fitsL [.str, .int .i64] cs) : ∃ x : Share, cs = x.cells ∧ x.wf := by
  obtain ⟨_, _, rfl, h0, h⟩ := fitsL_cons h
  obtain ⟨_, _, rfl, h1, h⟩ := fitsL_cons h
  obtain rfl := fitsL_nil h
  obtain ⟨v0, rfl, w0⟩ := fits_str h0
  obtain ⟨v1, rfl, w1⟩ := fits_int h1
  exact ⟨⟨v0, v1⟩, rfl, w0, (lit64 w1).1, (lit64 w1).2⟩
theorem Share.fitsS {rows : List (List PV)} (h : ∀ r ∈ rows, fitsL [.str, .int .i64] r) : ∃ l : List Share, rows = Share.rows l ∧ ∀ x ∈ l, x.wf := list_of fun r hr => Share.fits (h r hr)
theorem Share.flat (l : List Share) : flatRows (Share.rows l) := fun r hr c hc => by
  obtain ⟨x, _, rfl⟩ := List.mem_map.1 hr
  simp only [Share.cells, List.mem_cons, List.not_mem_nil, or_false] at hc
  rcases hc with rfl | rfl <;> rfl
theorem Share.rows_len (l : List Share) : (Share.rows l).length = l.length := by simp [Share.rows]
theorem Share.one (l : List Share) : Go.Ab.rowsOne (Share.rows l) := fun r hr => by obtain ⟨x, _, rfl⟩ := List.mem_map.1 hr; rfl
theorem c_szShare (x : Share) (left : Nat) (hl : left ≤ 1048576) (hx : x.wf) : HFn Tryz.prog 199 [.agg x.cells, .int .i64 left] [] (.int .i64 (szR x.sz left)) [] := by
  unfold Share.wf at hx
  refine hfn_intro hm Tryz.func199 (by kernel_rfl) rfl (by kernel_rfl) rfl ret0_ok ?_
  simp [Share.cells, Share.sz]
  rw [w64 (n := (left : Int) - x.melt.length) (by omega) (by omega)]
  refine ⟨fun h => by rw [szR_neg (by omega)], fun h => by rw [szR_pos (by omega)]⟩
theorem c_szShareS (l : List Share) (left : Nat) (hl : left ≤ 1048576) (hlen : l.length ≤ 9223372036854775807) (hx : ∀ x ∈ l, x.wf) : HFn Tryz.prog 131 [.sl 2 (Share.rows l), .int .i64 left] [] (.int .i64 (szR (Share.szS l) left)) [] := by
  refine hfn_intro hm Tryz.func131 (by kernel_rfl) rfl (by kernel_rfl) rfl ret0_ok ?_
  simp [Share.rows]
  rw [w64 (n := (left : Int) - l.length) (by omega) (by omega)]
  refine ⟨fun h => by rw [szR_neg (by unfold Share.szS; omega)], fun h => ?_⟩
  refine loop_upto hm l.length (fun i => ⟨[(0, .sl 2 (Share.rows l)), (1, .int .i64 (left - l.length - sumT Share.sz l i)), (5, .int .i64 i)], []⟩) (fun i => l.length + sumT Share.sz l i ≤ left) (by kernel_rfl) ?_ (by rw [sumT_zero]; omega) (fun i hi hI => ?_) (fun hI => ?_)
  · exact Wk.weak (ρ := []) (φ := []) (by simp [Share.rows, sumT_zero])
  · have ea := List.getElem?_eq_getElem hi
    have es := sumT_succ Share.sz hi
    have hle := sumT_le Share.sz l (i + 1)
    have e1 : (left : Int) - l.length - sumT Share.sz l i = ((left - l.length - sumT Share.sz l i : Nat) : Int) := by omega
    rw [e1]
    simp [Share.rows, hi]
    refine CallZ.use0 (c_szShare l[i] _ (by omega) (hx _ (List.getElem_mem hi))) rfl rfl ?_
    simp
    refine ⟨fun h => ?_, fun h => ?_⟩
    · have := szR_lt h
      rw [szR_neg (by unfold Share.szS; omega)]
    · have hh := szR_ge h
      refine ⟨by omega, ?_⟩
      refine Wk.weak (ρ := []) (φ := []) ?_
      simp
      rw [w64 (by omega) (by omega), szR_pos hh]
      omega
  · simp [Share.rows]
    rw [sumT_len] at hI ⊢
    rw [szR_pos (by unfold Share.szS; omega)]
    unfold Share.szS
    omega
theorem c_toShare (x : Share) : HFn Tryz.prog 215 [.agg x.cells] [] (.agg x.cells) [] := by
  refine hfn_intro hm Tryz.func215 (by kernel_rfl) rfl (by kernel_rfl) rfl ret0_ok ?_
  simp [Share.cells]
theorem c_toShareS (l : List Share) (hl : l.length ≤ 1048576) : HFn Tryz.prog 150 [.sl 2 (Share.rows l)] [] (.sf 0 2) [some (.arr 2 (Share.rows l))] := by
  refine hfn_intro hm Tryz.func150 (by kernel_rfl) rfl (by kernel_rfl) rfl (retN_ok (ρ := [0]) (φ := [])) ?_
  simp [Share.rows]
  refine ⟨by omega, by omega, ?_⟩
  refine loop_upto hm l.length (fun i => ⟨[(0, .sl 2 (Share.rows l)), (3, .sf 0 2), (4, .int .i64 i)], [some (.arr 2 ((l.take i).map Share.cells ++ List.replicate (l.length - i) [.str [], .int .i64 0]))]⟩) (fun _ => True) (by kernel_rfl) ?_ trivial (fun i hi _ => ?_) (fun _ => ?_)
  · exact Wk.weak (ρ := [0]) (φ := []) (by simp [Share.rows])
  · obtain ⟨X, hX, hXl, hXg⟩ := filled Share.cells l [.str [], .int .i64 0] hi
    rw [hX]
    have ea := List.getElem?_eq_getElem hi
    simp [Share.rows, hi]
    refine CallZ.use0 (c_toShare _) rfl rfl ?_
    simp [Share.cells, hi, hXl, hXg]
    refine Wk.weak (ρ := [0]) (φ := []) ?_
    simp
    rw [w64 (by omega) (by omega), ← hX]
    exact ⟨rfl, filled_next Share.cells l [.str [], .int .i64 0] hi⟩
  · simp [Share.rows]
theorem c_toShareSF (l : List Share) (hl : l.length ≤ 1048576) : HFn Tryz.prog 150 [.sl 2 (Share.rows l)] [] (.sl 2 (Share.rows l)) [] := (c_toShareS l hl).less (Wk.weak (ρ := []) (φ := [0]) (by simp))
theorem c_eqShare (a b : Share) : HFn Tryz.prog 239 [.agg a.cells, .agg b.cells] [] (.bool (decide (a = b))) [] := by
  refine hfn_intro hm Tryz.func239 (by kernel_rfl) rfl (by kernel_rfl) rfl ret0_ok ?_
  simp [Share.cells, Share.eq_iff]
  grind
theorem c_eqShareS (a b : List Share) (ha : a.length ≤ 9223372036854775807) : HFn Tryz.prog 172 [.sl 2 (Share.rows a), .sl 2 (Share.rows b)] [] (.bool (decide (a = b))) [] := by
  refine hfn_intro hm Tryz.func172 (by kernel_rfl) rfl (by kernel_rfl) rfl ret0_ok ?_
  simp [Share.rows]
  refine ⟨fun h => ?_, fun h => ?_⟩
  · exact fun e => h (by rw [e])
  · refine loop_upto hm a.length (fun i => ⟨[(0, .sl 2 (Share.rows a)), (1, .sl 2 (Share.rows b)), (5, .int .i64 i)], []⟩) (fun i => a.take i = b.take i) (by kernel_rfl) ?_ (by simp) (fun i hi hI => ?_) (fun hI => ?_)
    · exact Wk.weak (ρ := []) (φ := []) (by simp [Share.rows])
    · have hl : a.length = b.length := by omega
      have ea := List.getElem?_eq_getElem hi
      have hi' : i < b.length := by omega
      have eb := List.getElem?_eq_getElem hi'
      simp [Share.rows, hi, hi']
      refine CallZ.use0 (c_eqShare a[i] b[i]) rfl rfl ?_
      simp
      refine ⟨fun h e => h (by simp [e]), fun h => ⟨take_succ_eq hI ea eb h, ?_⟩⟩
      refine Wk.weak (ρ := []) (φ := []) ?_
      simp
      exact w64 (by omega) (by omega)
    · simp [Share.rows]
      exact eq_of_take hI (by omega)
/-- A value that the laws have marked, from number k on. -/
def Share.mark (k : Int) : Share := ⟨markT k, k + 1⟩
def Share.marks (k : Int) (n : Nat) : List Share := (List.range n).map fun i : Nat => Share.mark (k + 2 * i)
theorem Share.marks_len (k : Int) (n : Nat) : (Share.marks k n).length = n := by simp [Share.marks]
theorem c_markShareS (l : List Share) (k : Int) (hk : 0 ≤ k) (ha : 2 * l.length + k ≤ 1000000000) : MFn Tryz.prog 101 [.sf 0 2, .int .i64 k] [some (.arr 2 (Share.rows l))] [0] (.int .i64 (k + 2 * l.length)) [some (.arr 2 (Share.rows (Share.marks k l.length)))] := by
  refine mfn_intro [0] hm Tryz.func101 (by kernel_rfl) rfl (by kernel_rfl) rfl (retM_ok (ρ := [0]) (φ := [])) (by simp [Share.rows, Share.marks]) ?_
  simp
  refine loop_upto hm l.length (fun i => ⟨[(0, .sf 0 2), (1, .int .i64 (k + 2 * i)), (5, .int .i64 i), (28, .own 0)], [some (.arr 2 (Share.rows (Share.marks k i ++ l.drop i)))]⟩) (fun _ => True) (by kernel_rfl) ?_ trivial (fun i hi _ => ?_) (fun _ => ?_)
  · refine Wk.weak (ρ := [0]) (φ := []) ?_
    simp [Share.rows, Share.marks]
  · obtain ⟨X, hX, hl, hg⟩ := marked (fun j : Nat => Share.mark (k + 2 * j)) l hi
    rw [show Share.marks k i ++ l.drop i = X from hX]
    simp [Share.rows, hl, hi]
    refine CallZ.use0 (c_markText _ (by omega)) rfl rfl ?_
    simp [Share.cells, hl, hg, hi]
    rw [w64 (n := k + 2 * (i : Int) + 1) (by omega) (by omega)]
    rw [w64 (n := k + 2 * (i : Int) + 1 + 1) (by omega) (by omega)]
    refine Wk.weak (ρ := [0]) (φ := []) ?_
    simp
    rw [w64 (by omega) (by omega), ← hX]
    refine ⟨by omega, ?_⟩
    exact marked_next Share.cells (fun j : Nat => Share.mark (k + 2 * j)) l hi
  · simp [Share.rows, Share.marks]
end Go.Proofs.YtaidbadmhepccaaGreatDoor

namespace Go.Proofs.YtaidbadmhepccaaGreatDoor
open Go Go.Ab

set_option maxRecDepth 100000

structure Load where
  k_at : Int
  weight : Int
theorem Load.eq_iff {a b : Load} : a = b ↔ a.k_at = b.k_at ∧ a.weight = b.weight := by cases a; cases b; simp
instance : DecidableEq Load := fun _ _ => decidable_of_iff _ Load.eq_iff.symm
def Load.cells (x : Load) : List PV := [.int .i64 x.k_at, .int .i64 x.weight]
def Load.rows (l : List Load) : List (List PV) := l.map Load.cells
/-- What the laws count of a value. -/
def Load.sz (_ : Load) : Nat := 0
def Load.szS (l : List Load) : Nat := l.length + (l.map Load.sz).sum
/-- The values that arguments have. -/
def Load.wf (x : Load) : Prop := -9223372036854775808 ≤ x.k_at ∧ x.k_at ≤ 9223372036854775807 ∧ -9223372036854775808 ≤ x.weight ∧ x.weight ≤ 9223372036854775807
theorem Load.fits {cs : List PV} (h : fitsL [.int .i64, .int .i64] cs) : ∃ x : Load, cs = x.cells ∧ x.wf := by
  obtain ⟨_, _, rfl, h0, h⟩ := fitsL_cons h
  obtain ⟨_, _, rfl, h1, h⟩ := fitsL_cons h
  obtain rfl := fitsL_nil h
  obtain ⟨v0, rfl, w0⟩ := fits_int h0
  obtain ⟨v1, rfl, w1⟩ := fits_int h1
  exact ⟨⟨v0, v1⟩, rfl, (lit64 w0).1, (lit64 w0).2, (lit64 w1).1, (lit64 w1).2⟩
theorem Load.fitsS {rows : List (List PV)} (h : ∀ r ∈ rows, fitsL [.int .i64, .int .i64] r) : ∃ l : List Load, rows = Load.rows l ∧ ∀ x ∈ l, x.wf := list_of fun r hr => Load.fits (h r hr)
theorem Load.flat (l : List Load) : flatRows (Load.rows l) := fun r hr c hc => by
  obtain ⟨x, _, rfl⟩ := List.mem_map.1 hr
  simp only [Load.cells, List.mem_cons, List.not_mem_nil, or_false] at hc
  rcases hc with rfl | rfl <;> rfl
theorem Load.rows_len (l : List Load) : (Load.rows l).length = l.length := by simp [Load.rows]
theorem Load.one (l : List Load) : Go.Ab.rowsOne (Load.rows l) := fun r hr => by obtain ⟨x, _, rfl⟩ := List.mem_map.1 hr; rfl
theorem c_szLoadS (l : List Load) (left : Nat) (hl : left ≤ 1048576) (hlen : l.length ≤ 9223372036854775807) (_hx : ∀ x ∈ l, x.wf) : HFn Tryz.prog 132 [.sl 2 (Load.rows l), .int .i64 left] [] (.int .i64 (szR (Load.szS l) left)) [] := by
  refine hfn_intro hm Tryz.func132 (by kernel_rfl) rfl (by kernel_rfl) rfl ret0_ok ?_
  simp [Load.rows]
  rw [w64 (n := (left : Int) - l.length) (by omega) (by omega)]
  have hz : Load.szS l = l.length := by simp only [Load.szS]; rw [show (l.map Load.sz) = l.map (fun _ => 0) from rfl, sum_map_zero, Nat.add_zero]
  exact ⟨fun h => by rw [szR_neg (by omega)], fun h => by rw [szR_pos (by omega)]; omega⟩
theorem c_toLoad (x : Load) : HFn Tryz.prog 216 [.agg x.cells] [] (.agg x.cells) [] := by
  refine hfn_intro hm Tryz.func216 (by kernel_rfl) rfl (by kernel_rfl) rfl ret0_ok ?_
  simp [Load.cells]
theorem c_toLoadS (l : List Load) (hl : l.length ≤ 1048576) : HFn Tryz.prog 151 [.sl 2 (Load.rows l)] [] (.sf 0 2) [some (.arr 2 (Load.rows l))] := by
  refine hfn_intro hm Tryz.func151 (by kernel_rfl) rfl (by kernel_rfl) rfl (retN_ok (ρ := [0]) (φ := [])) ?_
  simp [Load.rows]
  refine ⟨by omega, by omega, ?_⟩
  refine loop_upto hm l.length (fun i => ⟨[(0, .sl 2 (Load.rows l)), (3, .sf 0 2), (4, .int .i64 i)], [some (.arr 2 ((l.take i).map Load.cells ++ List.replicate (l.length - i) [.int .i64 0, .int .i64 0]))]⟩) (fun _ => True) (by kernel_rfl) ?_ trivial (fun i hi _ => ?_) (fun _ => ?_)
  · exact Wk.weak (ρ := [0]) (φ := []) (by simp [Load.rows])
  · obtain ⟨X, hX, hXl, hXg⟩ := filled Load.cells l [.int .i64 0, .int .i64 0] hi
    rw [hX]
    have ea := List.getElem?_eq_getElem hi
    simp [Load.rows, hi]
    refine CallZ.use0 (c_toLoad _) rfl rfl ?_
    simp [Load.cells, hi, hXl, hXg]
    refine Wk.weak (ρ := [0]) (φ := []) ?_
    simp
    rw [w64 (by omega) (by omega), ← hX]
    exact ⟨rfl, filled_next Load.cells l [.int .i64 0, .int .i64 0] hi⟩
  · simp [Load.rows]
theorem c_toLoadSF (l : List Load) (hl : l.length ≤ 1048576) : HFn Tryz.prog 151 [.sl 2 (Load.rows l)] [] (.sl 2 (Load.rows l)) [] := (c_toLoadS l hl).less (Wk.weak (ρ := []) (φ := [0]) (by simp))
theorem c_eqLoad (a b : Load) : HFn Tryz.prog 240 [.agg a.cells, .agg b.cells] [] (.bool (decide (a = b))) [] := by
  refine hfn_intro hm Tryz.func240 (by kernel_rfl) rfl (by kernel_rfl) rfl ret0_ok ?_
  simp [Load.cells, Load.eq_iff]
  grind
theorem c_eqLoadS (a b : List Load) (ha : a.length ≤ 9223372036854775807) : HFn Tryz.prog 173 [.sl 2 (Load.rows a), .sl 2 (Load.rows b)] [] (.bool (decide (a = b))) [] := by
  refine hfn_intro hm Tryz.func173 (by kernel_rfl) rfl (by kernel_rfl) rfl ret0_ok ?_
  simp [Load.rows]
  refine ⟨fun h => ?_, fun h => ?_⟩
  · exact fun e => h (by rw [e])
  · refine loop_upto hm a.length (fun i => ⟨[(0, .sl 2 (Load.rows a)), (1, .sl 2 (Load.rows b)), (5, .int .i64 i)], []⟩) (fun i => a.take i = b.take i) (by kernel_rfl) ?_ (by simp) (fun i hi hI => ?_) (fun hI => ?_)
    · exact Wk.weak (ρ := []) (φ := []) (by simp [Load.rows])
    · have hl : a.length = b.length := by omega
      have ea := List.getElem?_eq_getElem hi
      have hi' : i < b.length := by omega
      have eb := List.getElem?_eq_getElem hi'
      simp [Load.rows, hi, hi']
      refine CallZ.use0 (c_eqLoad a[i] b[i]) rfl rfl ?_
      simp
      refine ⟨fun h e => h (by simp [e]), fun h => ⟨take_succ_eq hI ea eb h, ?_⟩⟩
      refine Wk.weak (ρ := []) (φ := []) ?_
      simp
      exact w64 (by omega) (by omega)
    · simp [Load.rows]
      exact eq_of_take hI (by omega)
/-- A value that the laws have marked, from number k on. -/
def Load.mark (k : Int) : Load := ⟨k, k + 1⟩
def Load.marks (k : Int) (n : Nat) : List Load := (List.range n).map fun i : Nat => Load.mark (k + 2 * i)
theorem Load.marks_len (k : Int) (n : Nat) : (Load.marks k n).length = n := by simp [Load.marks]
theorem c_markLoadS (l : List Load) (k : Int) (hk : 0 ≤ k) (ha : 2 * l.length + k ≤ 1000000000) : MFn Tryz.prog 102 [.sf 0 2, .int .i64 k] [some (.arr 2 (Load.rows l))] [0] (.int .i64 (k + 2 * l.length)) [some (.arr 2 (Load.rows (Load.marks k l.length)))] := by
  refine mfn_intro [0] hm Tryz.func102 (by kernel_rfl) rfl (by kernel_rfl) rfl (retM_ok (ρ := [0]) (φ := [])) (by simp [Load.rows, Load.marks]) ?_
  simp
  refine loop_upto hm l.length (fun i => ⟨[(0, .sf 0 2), (1, .int .i64 (k + 2 * i)), (5, .int .i64 i), (27, .own 0)], [some (.arr 2 (Load.rows (Load.marks k i ++ l.drop i)))]⟩) (fun _ => True) (by kernel_rfl) ?_ trivial (fun i hi _ => ?_) (fun _ => ?_)
  · refine Wk.weak (ρ := [0]) (φ := []) ?_
    simp [Load.rows, Load.marks]
  · obtain ⟨X, hX, hl, hg⟩ := marked (fun j : Nat => Load.mark (k + 2 * j)) l hi
    rw [show Load.marks k i ++ l.drop i = X from hX]
    simp [Load.rows, Load.cells, hl, hg, hi]
    rw [w64 (n := k + 2 * (i : Int) + 1) (by omega) (by omega)]
    rw [w64 (n := k + 2 * (i : Int) + 1 + 1) (by omega) (by omega)]
    refine Wk.weak (ρ := [0]) (φ := []) ?_
    simp
    rw [w64 (by omega) (by omega), ← hX]
    refine ⟨by omega, ?_⟩
    exact marked_next Load.cells (fun j : Nat => Load.mark (k + 2 * j)) l hi
  · simp [Load.rows, Load.marks]
end Go.Proofs.YtaidbadmhepccaaGreatDoor

namespace Go.Proofs.YtaidbadmhepccaaGreatDoor
open Go Go.Ab

set_option maxRecDepth 100000

structure Lever where
  k_in : Int
  k_out : Int
theorem Lever.eq_iff {a b : Lever} : a = b ↔ a.k_in = b.k_in ∧ a.k_out = b.k_out := by cases a; cases b; simp
instance : DecidableEq Lever := fun _ _ => decidable_of_iff _ Lever.eq_iff.symm
def Lever.cells (x : Lever) : List PV := [.int .i64 x.k_in, .int .i64 x.k_out]
def Lever.rows (l : List Lever) : List (List PV) := l.map Lever.cells
/-- What the laws count of a value. -/
def Lever.sz (_ : Lever) : Nat := 0
def Lever.szS (l : List Lever) : Nat := l.length + (l.map Lever.sz).sum
/-- The values that arguments have. -/
def Lever.wf (x : Lever) : Prop := -9223372036854775808 ≤ x.k_in ∧ x.k_in ≤ 9223372036854775807 ∧ -9223372036854775808 ≤ x.k_out ∧ x.k_out ≤ 9223372036854775807
theorem Lever.fits {cs : List PV} (h : fitsL [.int .i64, .int .i64] cs) : ∃ x : Lever, cs = x.cells ∧ x.wf := by
  obtain ⟨_, _, rfl, h0, h⟩ := fitsL_cons h
  obtain ⟨_, _, rfl, h1, h⟩ := fitsL_cons h
  obtain rfl := fitsL_nil h
  obtain ⟨v0, rfl, w0⟩ := fits_int h0
  obtain ⟨v1, rfl, w1⟩ := fits_int h1
  exact ⟨⟨v0, v1⟩, rfl, (lit64 w0).1, (lit64 w0).2, (lit64 w1).1, (lit64 w1).2⟩
theorem Lever.fitsS {rows : List (List PV)} (h : ∀ r ∈ rows, fitsL [.int .i64, .int .i64] r) : ∃ l : List Lever, rows = Lever.rows l ∧ ∀ x ∈ l, x.wf := list_of fun r hr => Lever.fits (h r hr)
theorem Lever.flat (l : List Lever) : flatRows (Lever.rows l) := fun r hr c hc => by
  obtain ⟨x, _, rfl⟩ := List.mem_map.1 hr
  simp only [Lever.cells, List.mem_cons, List.not_mem_nil, or_false] at hc
  rcases hc with rfl | rfl <;> rfl
theorem Lever.rows_len (l : List Lever) : (Lever.rows l).length = l.length := by simp [Lever.rows]
theorem Lever.one (l : List Lever) : Go.Ab.rowsOne (Lever.rows l) := fun r hr => by obtain ⟨x, _, rfl⟩ := List.mem_map.1 hr; rfl
theorem c_szLeverS (l : List Lever) (left : Nat) (hl : left ≤ 1048576) (hlen : l.length ≤ 9223372036854775807) (_hx : ∀ x ∈ l, x.wf) : HFn Tryz.prog 133 [.sl 2 (Lever.rows l), .int .i64 left] [] (.int .i64 (szR (Lever.szS l) left)) [] := by
  refine hfn_intro hm Tryz.func133 (by kernel_rfl) rfl (by kernel_rfl) rfl ret0_ok ?_
  simp [Lever.rows]
  rw [w64 (n := (left : Int) - l.length) (by omega) (by omega)]
  have hz : Lever.szS l = l.length := by simp only [Lever.szS]; rw [show (l.map Lever.sz) = l.map (fun _ => 0) from rfl, sum_map_zero, Nat.add_zero]
  exact ⟨fun h => by rw [szR_neg (by omega)], fun h => by rw [szR_pos (by omega)]; omega⟩
theorem c_toLever (x : Lever) : HFn Tryz.prog 217 [.agg x.cells] [] (.agg x.cells) [] := by
  refine hfn_intro hm Tryz.func217 (by kernel_rfl) rfl (by kernel_rfl) rfl ret0_ok ?_
  simp [Lever.cells]
theorem c_toLeverS (l : List Lever) (hl : l.length ≤ 1048576) : HFn Tryz.prog 152 [.sl 2 (Lever.rows l)] [] (.sf 0 2) [some (.arr 2 (Lever.rows l))] := by
  refine hfn_intro hm Tryz.func152 (by kernel_rfl) rfl (by kernel_rfl) rfl (retN_ok (ρ := [0]) (φ := [])) ?_
  simp [Lever.rows]
  refine ⟨by omega, by omega, ?_⟩
  refine loop_upto hm l.length (fun i => ⟨[(0, .sl 2 (Lever.rows l)), (3, .sf 0 2), (4, .int .i64 i)], [some (.arr 2 ((l.take i).map Lever.cells ++ List.replicate (l.length - i) [.int .i64 0, .int .i64 0]))]⟩) (fun _ => True) (by kernel_rfl) ?_ trivial (fun i hi _ => ?_) (fun _ => ?_)
  · exact Wk.weak (ρ := [0]) (φ := []) (by simp [Lever.rows])
  · obtain ⟨X, hX, hXl, hXg⟩ := filled Lever.cells l [.int .i64 0, .int .i64 0] hi
    rw [hX]
    have ea := List.getElem?_eq_getElem hi
    simp [Lever.rows, hi]
    refine CallZ.use0 (c_toLever _) rfl rfl ?_
    simp [Lever.cells, hi, hXl, hXg]
    refine Wk.weak (ρ := [0]) (φ := []) ?_
    simp
    rw [w64 (by omega) (by omega), ← hX]
    exact ⟨rfl, filled_next Lever.cells l [.int .i64 0, .int .i64 0] hi⟩
  · simp [Lever.rows]
theorem c_toLeverSF (l : List Lever) (hl : l.length ≤ 1048576) : HFn Tryz.prog 152 [.sl 2 (Lever.rows l)] [] (.sl 2 (Lever.rows l)) [] := (c_toLeverS l hl).less (Wk.weak (ρ := []) (φ := [0]) (by simp))
theorem c_eqLever (a b : Lever) : HFn Tryz.prog 241 [.agg a.cells, .agg b.cells] [] (.bool (decide (a = b))) [] := by
  refine hfn_intro hm Tryz.func241 (by kernel_rfl) rfl (by kernel_rfl) rfl ret0_ok ?_
  simp [Lever.cells, Lever.eq_iff]
  grind
theorem c_eqLeverS (a b : List Lever) (ha : a.length ≤ 9223372036854775807) : HFn Tryz.prog 174 [.sl 2 (Lever.rows a), .sl 2 (Lever.rows b)] [] (.bool (decide (a = b))) [] := by
  refine hfn_intro hm Tryz.func174 (by kernel_rfl) rfl (by kernel_rfl) rfl ret0_ok ?_
  simp [Lever.rows]
  refine ⟨fun h => ?_, fun h => ?_⟩
  · exact fun e => h (by rw [e])
  · refine loop_upto hm a.length (fun i => ⟨[(0, .sl 2 (Lever.rows a)), (1, .sl 2 (Lever.rows b)), (5, .int .i64 i)], []⟩) (fun i => a.take i = b.take i) (by kernel_rfl) ?_ (by simp) (fun i hi hI => ?_) (fun hI => ?_)
    · exact Wk.weak (ρ := []) (φ := []) (by simp [Lever.rows])
    · have hl : a.length = b.length := by omega
      have ea := List.getElem?_eq_getElem hi
      have hi' : i < b.length := by omega
      have eb := List.getElem?_eq_getElem hi'
      simp [Lever.rows, hi, hi']
      refine CallZ.use0 (c_eqLever a[i] b[i]) rfl rfl ?_
      simp
      refine ⟨fun h e => h (by simp [e]), fun h => ⟨take_succ_eq hI ea eb h, ?_⟩⟩
      refine Wk.weak (ρ := []) (φ := []) ?_
      simp
      exact w64 (by omega) (by omega)
    · simp [Lever.rows]
      exact eq_of_take hI (by omega)
/-- A value that the laws have marked, from number k on. -/
def Lever.mark (k : Int) : Lever := ⟨k, k + 1⟩
def Lever.marks (k : Int) (n : Nat) : List Lever := (List.range n).map fun i : Nat => Lever.mark (k + 2 * i)
theorem Lever.marks_len (k : Int) (n : Nat) : (Lever.marks k n).length = n := by simp [Lever.marks]
theorem c_markLeverS (l : List Lever) (k : Int) (hk : 0 ≤ k) (ha : 2 * l.length + k ≤ 1000000000) : MFn Tryz.prog 103 [.sf 0 2, .int .i64 k] [some (.arr 2 (Lever.rows l))] [0] (.int .i64 (k + 2 * l.length)) [some (.arr 2 (Lever.rows (Lever.marks k l.length)))] := by
  refine mfn_intro [0] hm Tryz.func103 (by kernel_rfl) rfl (by kernel_rfl) rfl (retM_ok (ρ := [0]) (φ := [])) (by simp [Lever.rows, Lever.marks]) ?_
  simp
  refine loop_upto hm l.length (fun i => ⟨[(0, .sf 0 2), (1, .int .i64 (k + 2 * i)), (5, .int .i64 i), (27, .own 0)], [some (.arr 2 (Lever.rows (Lever.marks k i ++ l.drop i)))]⟩) (fun _ => True) (by kernel_rfl) ?_ trivial (fun i hi _ => ?_) (fun _ => ?_)
  · refine Wk.weak (ρ := [0]) (φ := []) ?_
    simp [Lever.rows, Lever.marks]
  · obtain ⟨X, hX, hl, hg⟩ := marked (fun j : Nat => Lever.mark (k + 2 * j)) l hi
    rw [show Lever.marks k i ++ l.drop i = X from hX]
    simp [Lever.rows, Lever.cells, hl, hg, hi]
    rw [w64 (n := k + 2 * (i : Int) + 1) (by omega) (by omega)]
    rw [w64 (n := k + 2 * (i : Int) + 1 + 1) (by omega) (by omega)]
    refine Wk.weak (ρ := [0]) (φ := []) ?_
    simp
    rw [w64 (by omega) (by omega), ← hX]
    refine ⟨by omega, ?_⟩
    exact marked_next Lever.cells (fun j : Nat => Lever.mark (k + 2 * j)) l hi
  · simp [Lever.rows, Lever.marks]
end Go.Proofs.YtaidbadmhepccaaGreatDoor

namespace Go.Proofs.YtaidbadmhepccaaGreatDoor
open Go Go.Ab

set_option maxRecDepth 100000

structure Swing where
  bell : List UInt8
  rate : Int
  force : Int
theorem Swing.eq_iff {a b : Swing} : a = b ↔ a.bell = b.bell ∧ a.rate = b.rate ∧ a.force = b.force := by cases a; cases b; simp
instance : DecidableEq Swing := fun _ _ => decidable_of_iff _ Swing.eq_iff.symm
def Swing.cells (x : Swing) : List PV := [.str x.bell, .int .i64 x.rate, .int .i64 x.force]
def Swing.rows (l : List Swing) : List (List PV) := l.map Swing.cells
/-- What the laws count of a value. -/
def Swing.sz (x : Swing) : Nat := x.bell.length
def Swing.szS (l : List Swing) : Nat := l.length + (l.map Swing.sz).sum
/-- The values that arguments have. -/
def Swing.wf (x : Swing) : Prop := x.bell.length ≤ 9223372036854775807 ∧ -9223372036854775808 ≤ x.rate ∧ x.rate ≤ 9223372036854775807 ∧ -9223372036854775808 ≤ x.force ∧ x.force ≤ 9223372036854775807
theorem Swing.fits {cs : List PV} (h : fitsL [.str, .int .i64, .int .i64] cs) : ∃ x : Swing, cs = x.cells ∧ x.wf := by
  obtain ⟨_, _, rfl, h0, h⟩ := fitsL_cons h
  obtain ⟨_, _, rfl, h1, h⟩ := fitsL_cons h
  obtain ⟨_, _, rfl, h2, h⟩ := fitsL_cons h
  obtain rfl := fitsL_nil h
  obtain ⟨v0, rfl, w0⟩ := fits_str h0
  obtain ⟨v1, rfl, w1⟩ := fits_int h1
  obtain ⟨v2, rfl, w2⟩ := fits_int h2
  exact ⟨⟨v0, v1, v2⟩, rfl, w0, (lit64 w1).1, (lit64 w1).2, (lit64 w2).1, (lit64 w2).2⟩
theorem Swing.fitsS {rows : List (List PV)} (h : ∀ r ∈ rows, fitsL [.str, .int .i64, .int .i64] r) : ∃ l : List Swing, rows = Swing.rows l ∧ ∀ x ∈ l, x.wf := list_of fun r hr => Swing.fits (h r hr)
theorem Swing.flat (l : List Swing) : flatRows (Swing.rows l) := fun r hr c hc => by
  obtain ⟨x, _, rfl⟩ := List.mem_map.1 hr
  simp only [Swing.cells, List.mem_cons, List.not_mem_nil, or_false] at hc
  rcases hc with rfl | rfl | rfl <;> rfl
theorem Swing.rows_len (l : List Swing) : (Swing.rows l).length = l.length := by simp [Swing.rows]
theorem Swing.one (l : List Swing) : Go.Ab.rowsOne (Swing.rows l) := fun r hr => by obtain ⟨x, _, rfl⟩ := List.mem_map.1 hr; rfl
end Go.Proofs.YtaidbadmhepccaaGreatDoor

namespace Go.Proofs.YtaidbadmhepccaaGreatDoor
open Go Go.Ab

set_option maxRecDepth 100000

structure Trouble where
  kind : Int
  who : List UInt8
  what : List UInt8
theorem Trouble.eq_iff {a b : Trouble} : a = b ↔ a.kind = b.kind ∧ a.who = b.who ∧ a.what = b.what := by cases a; cases b; simp
instance : DecidableEq Trouble := fun _ _ => decidable_of_iff _ Trouble.eq_iff.symm
def Trouble.cells (x : Trouble) : List PV := [.int .i64 x.kind, .str x.who, .str x.what]
def Trouble.rows (l : List Trouble) : List (List PV) := l.map Trouble.cells
/-- What the laws count of a value. -/
def Trouble.sz (x : Trouble) : Nat := x.who.length + x.what.length
def Trouble.szS (l : List Trouble) : Nat := l.length + (l.map Trouble.sz).sum
/-- The values that arguments have. -/
def Trouble.wf (x : Trouble) : Prop := -9223372036854775808 ≤ x.kind ∧ x.kind ≤ 9223372036854775807 ∧ x.who.length ≤ 9223372036854775807 ∧ x.what.length ≤ 9223372036854775807
theorem Trouble.fits {cs : List PV} (h : fitsL [.int .i64, .str, .str] cs) : ∃ x : Trouble, cs = x.cells ∧ x.wf := by
  obtain ⟨_, _, rfl, h0, h⟩ := fitsL_cons h
  obtain ⟨_, _, rfl, h1, h⟩ := fitsL_cons h
  obtain ⟨_, _, rfl, h2, h⟩ := fitsL_cons h
  obtain rfl := fitsL_nil h
  obtain ⟨v0, rfl, w0⟩ := fits_int h0
  obtain ⟨v1, rfl, w1⟩ := fits_str h1
  obtain ⟨v2, rfl, w2⟩ := fits_str h2
  exact ⟨⟨v0, v1, v2⟩, rfl, (lit64 w0).1, (lit64 w0).2, w1, w2⟩
theorem Trouble.fitsS {rows : List (List PV)} (h : ∀ r ∈ rows, fitsL [.int .i64, .str, .str] r) : ∃ l : List Trouble, rows = Trouble.rows l ∧ ∀ x ∈ l, x.wf := list_of fun r hr => Trouble.fits (h r hr)
theorem Trouble.flat (l : List Trouble) : flatRows (Trouble.rows l) := fun r hr c hc => by
  obtain ⟨x, _, rfl⟩ := List.mem_map.1 hr
  simp only [Trouble.cells, List.mem_cons, List.not_mem_nil, or_false] at hc
  rcases hc with rfl | rfl | rfl <;> rfl
theorem Trouble.rows_len (l : List Trouble) : (Trouble.rows l).length = l.length := by simp [Trouble.rows]
theorem Trouble.one (l : List Trouble) : Go.Ab.rowsOne (Trouble.rows l) := fun r hr => by obtain ⟨x, _, rfl⟩ := List.mem_map.1 hr; rfl
theorem c_eqTrouble (a b : Trouble) : HFn Tryz.prog 41 [.agg a.cells, .agg b.cells] [] (.bool (decide (a = b))) [] := by
  refine hfn_intro hm Tryz.func41 (by kernel_rfl) rfl (by kernel_rfl) rfl ret0_ok ?_
  simp [Trouble.cells, Trouble.eq_iff]
  grind
theorem c_eqTroubleS (a b : List Trouble) (ha : a.length ≤ 9223372036854775807) : HFn Tryz.prog 10 [.sl 3 (Trouble.rows a), .sl 3 (Trouble.rows b)] [] (.bool (decide (a = b))) [] := by
  refine hfn_intro hm Tryz.func10 (by kernel_rfl) rfl (by kernel_rfl) rfl ret0_ok ?_
  simp [Trouble.rows]
  refine ⟨fun h => ?_, fun h => ?_⟩
  · exact fun e => h (by rw [e])
  · refine loop_upto hm a.length (fun i => ⟨[(0, .sl 3 (Trouble.rows a)), (1, .sl 3 (Trouble.rows b)), (5, .int .i64 i)], []⟩) (fun i => a.take i = b.take i) (by kernel_rfl) ?_ (by simp) (fun i hi hI => ?_) (fun hI => ?_)
    · exact Wk.weak (ρ := []) (φ := []) (by simp [Trouble.rows])
    · have hl : a.length = b.length := by omega
      have ea := List.getElem?_eq_getElem hi
      have hi' : i < b.length := by omega
      have eb := List.getElem?_eq_getElem hi'
      simp [Trouble.rows, hi, hi']
      refine CallZ.use0 (c_eqTrouble a[i] b[i]) rfl rfl ?_
      simp
      refine ⟨fun h e => h (by simp [e]), fun h => ⟨take_succ_eq hI ea eb h, ?_⟩⟩
      refine Wk.weak (ρ := []) (φ := []) ?_
      simp
      exact w64 (by omega) (by omega)
    · simp [Trouble.rows]
      exact eq_of_take hI (by omega)
/-- A value that the laws have marked, from number k on. -/
def Trouble.mark (k : Int) : Trouble := ⟨k, markT (k + 1), markT (k + 1 + 1)⟩
def Trouble.marks (k : Int) (n : Nat) : List Trouble := (List.range n).map fun i : Nat => Trouble.mark (k + 3 * i)
theorem Trouble.marks_len (k : Int) (n : Nat) : (Trouble.marks k n).length = n := by simp [Trouble.marks]
theorem c_markTroubleS (l : List Trouble) (k : Int) (hk : 0 ≤ k) (ha : 3 * l.length + k ≤ 1000000000) : MFn Tryz.prog 13 [.sf 0 3, .int .i64 k] [some (.arr 3 (Trouble.rows l))] [0] (.int .i64 (k + 3 * l.length)) [some (.arr 3 (Trouble.rows (Trouble.marks k l.length)))] := by
  refine mfn_intro [0] hm Tryz.func13 (by kernel_rfl) rfl (by kernel_rfl) rfl (retM_ok (ρ := [0]) (φ := [])) (by simp [Trouble.rows, Trouble.marks]) ?_
  simp
  refine loop_upto hm l.length (fun i => ⟨[(0, .sf 0 3), (1, .int .i64 (k + 3 * i)), (5, .int .i64 i), (36, .own 0)], [some (.arr 3 (Trouble.rows (Trouble.marks k i ++ l.drop i)))]⟩) (fun _ => True) (by kernel_rfl) ?_ trivial (fun i hi _ => ?_) (fun _ => ?_)
  · refine Wk.weak (ρ := [0]) (φ := []) ?_
    simp [Trouble.rows, Trouble.marks]
  · obtain ⟨X, hX, hl, hg⟩ := marked (fun j : Nat => Trouble.mark (k + 3 * j)) l hi
    rw [show Trouble.marks k i ++ l.drop i = X from hX]
    simp [Trouble.rows, Trouble.cells, hl, hg, hi]
    rw [w64 (n := k + 3 * (i : Int) + 1) (by omega) (by omega)]
    refine CallZ.use0 (c_markText _ (by omega)) rfl rfl ?_
    simp [hl, hi]
    rw [w64 (n := k + 3 * (i : Int) + 1 + 1) (by omega) (by omega)]
    refine CallZ.use0 (c_markText _ (by omega)) rfl rfl ?_
    simp [hl, hi]
    rw [w64 (n := k + 3 * (i : Int) + 1 + 1 + 1) (by omega) (by omega)]
    refine Wk.weak (ρ := [0]) (φ := []) ?_
    simp
    rw [w64 (by omega) (by omega), ← hX]
    refine ⟨by omega, ?_⟩
    exact marked_next Trouble.cells (fun j : Nat => Trouble.mark (k + 3 * j)) l hi
  · simp [Trouble.rows, Trouble.marks]
theorem c_heldTroubleS (a : List Trouble) (k : Int) (hk : 0 ≤ k) (ha : 3 * a.length + k ≤ 1000000000) (h : a = Trouble.marks k a.length) : HFn Tryz.prog 14 [.sl 3 (Trouble.rows a), .int .i64 k] [] (.int .i64 (k + 3 * a.length)) [] := by
  refine hfn_intro hm Tryz.func14 (by kernel_rfl) rfl (by kernel_rfl) rfl ret0_ok ?_
  simp [Trouble.rows]
  refine loop_upto hm a.length (fun i => ⟨[(0, .sl 3 (Trouble.rows a)), (1, .int .i64 (k + 3 * i)), (5, .int .i64 i)], []⟩) (fun _ => True) (by kernel_rfl) ?_ trivial (fun i hi _ => ?_) (fun _ => ?_)
  · exact Wk.weak (ρ := []) (φ := []) (by simp [Trouble.rows])
  · have e : a[i] = Trouble.mark (k + 3 * i) := by
      have h1 := List.getElem?_eq_getElem hi
      have h2 : a[i]? = (Trouble.marks k a.length)[i]? := by rw [← h]
      rw [h1] at h2
      simpa [Trouble.marks, hi] using h2
    have e1 : IntKind.i64.wrap (k + 3 * (i : Int) + 1) = k + 3 * (i : Int) + 1 := w64 (by omega) (by omega)
    have e2 : IntKind.i64.wrap (k + 3 * (i : Int) + 1 + 1) = k + 3 * (i : Int) + 1 + 1 := w64 (by omega) (by omega)
    have e3 : IntKind.i64.wrap (k + 3 * (i : Int) + 1 + 1 + 1) = k + 3 * (i : Int) + 1 + 1 + 1 := w64 (by omega) (by omega)
    have ei : IntKind.i64.wrap ((i : Int) + 1) = i + 1 := w64 (by omega) (by omega)
    simp [Trouble.rows, hi, e, Trouble.cells, Trouble.mark, e1]
    refine CallZ.use0 (c_markText _ (by omega)) rfl rfl ?_
    simp [hi, e, Trouble.cells, Trouble.mark, e2]
    refine CallZ.use0 (c_markText _ (by omega)) rfl rfl ?_
    simp [ei, e3]
    refine Wk.weak (ρ := []) (φ := []) ?_
    simp
    omega
  · simp [Trouble.rows]
end Go.Proofs.YtaidbadmhepccaaGreatDoor
