/- The type Trouble as plain data, and what the functions of package laws do with it. No condition. -/
import Derived.Test.YtnidojjahhhaaaaCd
namespace Go.Proofs.Ytnidojjahhhaaaa
open Go Go.Ab
set_option maxRecDepth 100000

structure Trouble where
  kind : Int
  who : List UInt8
  what : List UInt8
theorem Trouble.eq_iff {a b : Trouble} : a = b ↔ a.kind = b.kind ∧ a.who = b.who ∧ a.what = b.what := by cases a; cases b; simp
instance : DecidableEq Trouble := fun _ _ => decidable_of_iff _ Trouble.eq_iff.symm
def Trouble.cells (x : Trouble) : List PV := [.int .i64 x.kind, .str x.who, .str x.what]
def Trouble.rows (l : List Trouble) : List (List PV) := l.map Trouble.cells
/-- What the laws count of a value. -/
def Trouble.sz (x : Trouble) : Nat := x.who.length + x.what.length
def Trouble.szS (l : List Trouble) : Nat := l.length + (l.map Trouble.sz).sum
/-- The values that arguments have. -/
def Trouble.wf (x : Trouble) : Prop := -9223372036854775808 ≤ x.kind ∧ x.kind ≤ 9223372036854775807 ∧ x.who.length ≤ 9223372036854775807 ∧ x.what.length ≤ 9223372036854775807
theorem Trouble.fits {cs : List PV} (h : fitsL [.int .i64, .str, .str] cs) : ∃ x : Trouble, cs = x.cells ∧ x.wf := by
  obtain ⟨_, _, rfl, h0, h⟩ := fitsL_cons h
  obtain ⟨_, _, rfl, h1, h⟩ := fitsL_cons h
  obtain ⟨_, _, rfl, h2, h⟩ := fitsL_cons h
  obtain rfl := fitsL_nil h
  obtain ⟨v0, rfl, w0⟩ := fits_int h0
  obtain ⟨v1, rfl, w1⟩ := fits_str h1
  obtain ⟨v2, rfl, w2⟩ := fits_str h2
  exact ⟨⟨v0, v1, v2⟩, rfl, (lit64 w0).1, (lit64 w0).2, w1, w2⟩
theorem Trouble.fitsS {rows : List (List PV)} (h : ∀ r ∈ rows, fitsL [.int .i64, .str, .str] r) : ∃ l : List Trouble, rows = Trouble.rows l ∧ ∀ x ∈ l, x.wf := list_of fun r hr => Trouble.fits (h r hr)
theorem Trouble.flat (l : List Trouble) : flatRows (Trouble.rows l) := fun r hr c hc => by
  obtain ⟨x, _, rfl⟩ := List.mem_map.1 hr
  simp only [Trouble.cells, List.mem_cons, List.not_mem_nil, or_false] at hc
  rcases hc with rfl | rfl | rfl <;> rfl
theorem Trouble.rows_len (l : List Trouble) : (Trouble.rows l).length = l.length := by simp [Trouble.rows]
theorem c_szTrouble (x : Trouble) (left : Nat) (hl : left ≤ 1048576) (hx : x.wf) : HFn Try.prog 63 [.agg x.cells, .int .i64 left] [] (.int .i64 (szR x.sz left)) [] := by
  unfold Trouble.wf at hx
  refine hfn_intro hm Try.func63 (by kernel_rfl) rfl (by kernel_rfl) rfl ret0_ok ?_
  simp [Trouble.cells, Trouble.sz]
  rw [w64 (n := (left : Int) - x.who.length) (by omega) (by omega)]
  refine ⟨fun h => by rw [szR_neg (by omega)], fun h => ?_⟩
  rw [w64 (n := (left : Int) - x.who.length - x.what.length) (by omega) (by omega)]
  refine ⟨fun h => by rw [szR_neg (by omega)], fun h => by rw [szR_pos (by omega)]; omega⟩
theorem c_szTroubleS (l : List Trouble) (left : Nat) (hl : left ≤ 1048576) (hlen : l.length ≤ 9223372036854775807) (hx : ∀ x ∈ l, x.wf) : HFn Try.prog 20 [.sl 3 (Trouble.rows l), .int .i64 left] [] (.int .i64 (szR (Trouble.szS l) left)) [] := by
  refine hfn_intro hm Try.func20 (by kernel_rfl) rfl (by kernel_rfl) rfl ret0_ok ?_
  simp [Trouble.rows]
  rw [w64 (n := (left : Int) - l.length) (by omega) (by omega)]
  refine ⟨fun h => by rw [szR_neg (by unfold Trouble.szS; omega)], fun h => ?_⟩
  refine loop_upto hm l.length (fun i => ⟨[(0, .sl 3 (Trouble.rows l)), (1, .int .i64 (left - l.length - sumT Trouble.sz l i)), (5, .int .i64 i)], []⟩) (fun i => l.length + sumT Trouble.sz l i ≤ left) (by kernel_rfl) ?_ (by rw [sumT_zero]; omega) (fun i hi hI => ?_) (fun hI => ?_)
  · exact Wk.weak (ρ := []) (φ := []) (by simp [Trouble.rows, sumT_zero])
  · have ea := List.getElem?_eq_getElem hi
    have es := sumT_succ Trouble.sz hi
    have hle := sumT_le Trouble.sz l (i + 1)
    have e1 : (left : Int) - l.length - sumT Trouble.sz l i = ((left - l.length - sumT Trouble.sz l i : Nat) : Int) := by omega
    rw [e1]
    simp [Trouble.rows, ea, hi]
    refine CallZ.use0 (c_szTrouble l[i] _ (by omega) (hx _ (List.getElem_mem hi))) rfl rfl ?_
    simp
    refine ⟨fun h => ?_, fun h => ?_⟩
    · have := szR_lt h
      rw [szR_neg (by unfold Trouble.szS; omega)]
    · have hh := szR_ge h
      refine ⟨by omega, ?_⟩
      refine Wk.weak (ρ := []) (φ := []) ?_
      simp [Trouble.rows]
      rw [w64 (by omega) (by omega), szR_pos hh]
      omega
  · simp [Trouble.rows]
    rw [sumT_len] at hI ⊢
    rw [szR_pos (by unfold Trouble.szS; omega)]
    unfold Trouble.szS
    omega
theorem c_toTrouble (x : Trouble) : HFn Try.prog 65 [.agg x.cells] [] (.agg x.cells) [] := by
  refine hfn_intro hm Try.func65 (by kernel_rfl) rfl (by kernel_rfl) rfl ret0_ok ?_
  simp [Trouble.cells]
theorem c_toTroubleS (l : List Trouble) (hl : l.length ≤ 1048576) : HFn Try.prog 22 [.sl 3 (Trouble.rows l)] [] (.sf 0 3) [some (.arr 3 (Trouble.rows l))] := by
  refine hfn_intro hm Try.func22 (by kernel_rfl) rfl (by kernel_rfl) rfl (retN_ok (ρ := [0]) (φ := [])) ?_
  simp [Trouble.rows]
  refine ⟨by omega, by omega, ?_⟩
  refine loop_upto hm l.length (fun i => ⟨[(0, .sl 3 (Trouble.rows l)), (3, .sf 0 3), (4, .int .i64 i)], [some (.arr 3 ((l.take i).map Trouble.cells ++ List.replicate (l.length - i) [.int .i64 0, .str [], .str []]))]⟩) (fun _ => True) (by kernel_rfl) ?_ trivial (fun i hi _ => ?_) (fun _ => ?_)
  · exact Wk.weak (ρ := [0]) (φ := []) (by simp [Trouble.rows])
  · obtain ⟨X, hX, hXl, hXg⟩ := filled Trouble.cells l [.int .i64 0, .str [], .str []] hi
    rw [hX]
    have ea := List.getElem?_eq_getElem hi
    simp [Trouble.rows, ea, hi, hXl]
    refine CallZ.use0 (c_toTrouble _) rfl rfl ?_
    simp [Trouble.cells, hi, hXl, hXg]
    refine Wk.weak (ρ := [0]) (φ := []) ?_
    simp
    rw [w64 (by omega) (by omega), ← hX]
    exact ⟨rfl, filled_next Trouble.cells l [.int .i64 0, .str [], .str []] hi⟩
  · simp [Trouble.rows]
theorem c_eqTrouble (a b : Trouble) : HFn Try.prog 67 [.agg a.cells, .agg b.cells] [] (.bool (decide (a = b))) [] := by
  refine hfn_intro hm Try.func67 (by kernel_rfl) rfl (by kernel_rfl) rfl ret0_ok ?_
  simp [Trouble.cells, Trouble.eq_iff]
  grind
theorem c_eqTroubleS (a b : List Trouble) (ha : a.length ≤ 9223372036854775807) : HFn Try.prog 25 [.sl 3 (Trouble.rows a), .sl 3 (Trouble.rows b)] [] (.bool (decide (a = b))) [] := by
  refine hfn_intro hm Try.func25 (by kernel_rfl) rfl (by kernel_rfl) rfl ret0_ok ?_
  simp [Trouble.rows]
  refine ⟨fun h => ?_, fun h => ?_⟩
  · exact fun e => h (by rw [e])
  · refine loop_upto hm a.length (fun i => ⟨[(0, .sl 3 (Trouble.rows a)), (1, .sl 3 (Trouble.rows b)), (5, .int .i64 i)], []⟩) (fun i => a.take i = b.take i) (by kernel_rfl) ?_ (by simp) (fun i hi hI => ?_) (fun hI => ?_)
    · exact Wk.weak (ρ := []) (φ := []) (by simp [Trouble.rows])
    · have hl : a.length = b.length := by omega
      have ea := List.getElem?_eq_getElem hi
      have hi' : i < b.length := by omega
      have eb := List.getElem?_eq_getElem hi'
      simp [Trouble.rows, ea, eb, hi, hi']
      refine CallZ.use0 (c_eqTrouble a[i] b[i]) rfl rfl ?_
      simp
      refine ⟨fun h e => h (by simp [e]), fun h => ⟨take_succ_eq hI ea eb h, ?_⟩⟩
      refine Wk.weak (ρ := []) (φ := []) ?_
      simp [Trouble.rows]
      exact w64 (by omega) (by omega)
    · simp [Trouble.rows]
      exact eq_of_take hI (by omega)
/-- A value that the laws have marked, from number k on. -/
def Trouble.mark (k : Int) : Trouble := ⟨k, markT (k + 1), markT (k + 1 + 1)⟩
def Trouble.marks (k : Int) (n : Nat) : List Trouble := (List.range n).map fun i : Nat => Trouble.mark (k + 3 * i)
theorem Trouble.marks_len (k : Int) (n : Nat) : (Trouble.marks k n).length = n := by simp [Trouble.marks]
theorem c_markTroubleS (l : List Trouble) (k : Int) (hk : 0 ≤ k) (ha : 3 * l.length + k ≤ 1000000000) : MFn Try.prog 26 [.sf 0 3, .int .i64 k] [some (.arr 3 (Trouble.rows l))] [0] (.int .i64 (k + 3 * l.length)) [some (.arr 3 (Trouble.rows (Trouble.marks k l.length)))] := by
  refine mfn_intro [0] hm Try.func26 (by kernel_rfl) rfl (by kernel_rfl) rfl (retM_ok (ρ := [0]) (φ := [])) (by simp [Trouble.rows, Trouble.marks]) ?_
  simp
  refine loop_upto hm l.length (fun i => ⟨[(0, .sf 0 3), (1, .int .i64 (k + 3 * i)), (5, .int .i64 i), (36, .own 0)], [some (.arr 3 (Trouble.rows (Trouble.marks k i ++ l.drop i)))]⟩) (fun _ => True) (by kernel_rfl) ?_ trivial (fun i hi _ => ?_) (fun _ => ?_)
  · refine Wk.weak (ρ := [0]) (φ := []) ?_
    simp [Trouble.rows, Trouble.marks]
  · obtain ⟨X, hX, hl, hg⟩ := marked (fun j : Nat => Trouble.mark (k + 3 * j)) l hi
    rw [show Trouble.marks k i ++ l.drop i = X from hX]
    simp [Trouble.rows, Trouble.cells, hl, hg, hi]
    rw [w64 (n := k + 3 * (i : Int) + 1) (by omega) (by omega)]
    refine CallZ.use0 (c_markText _ (by omega)) rfl rfl ?_
    simp [Trouble.cells, hl, hg, hi]
    rw [w64 (n := k + 3 * (i : Int) + 1 + 1) (by omega) (by omega)]
    refine CallZ.use0 (c_markText _ (by omega)) rfl rfl ?_
    simp [Trouble.cells, hl, hg, hi]
    rw [w64 (n := k + 3 * (i : Int) + 1 + 1 + 1) (by omega) (by omega)]
    refine Wk.weak (ρ := [0]) (φ := []) ?_
    simp
    rw [w64 (by omega) (by omega), ← hX]
    refine ⟨by omega, ?_⟩
    exact marked_next Trouble.cells (fun j : Nat => Trouble.mark (k + 3 * j)) l hi
  · simp [Trouble.rows, Trouble.marks]
end Go.Proofs.Ytnidojjahhhaaaa
