/- The type Pair as plain data, and what the functions of package laws do with it. No condition. -/
import Derived.Test.YtnphmemhejhooaaCd
namespace Go.Proofs.Ytnphmemhejhooaa
open Go Go.Ab
set_option maxRecDepth 100000

structure Pair where
  key : List UInt8
  text : List UInt8
theorem Pair.eq_iff {a b : Pair} : a = b ↔ a.key = b.key ∧ a.text = b.text := by cases a; cases b; simp
instance : DecidableEq Pair := fun _ _ => decidable_of_iff _ Pair.eq_iff.symm
def Pair.cells (x : Pair) : List PV := [.str x.key, .str x.text]
def Pair.rows (l : List Pair) : List (List PV) := l.map Pair.cells
/-- What the laws count of a value. -/
def Pair.sz (x : Pair) : Nat := x.key.length + x.text.length
def Pair.szS (l : List Pair) : Nat := l.length + (l.map Pair.sz).sum
/-- The values that arguments have. -/
def Pair.wf (x : Pair) : Prop := x.key.length ≤ 9223372036854775807 ∧ x.text.length ≤ 9223372036854775807
theorem Pair.fits {cs : List PV} (h : fitsL [.str, .str] cs) : ∃ x : Pair, cs = x.cells ∧ x.wf := by
  obtain ⟨_, _, rfl, h0, h⟩ := fitsL_cons h
  obtain ⟨_, _, rfl, h1, h⟩ := fitsL_cons h
  obtain rfl := fitsL_nil h
  obtain ⟨v0, rfl, w0⟩ := fits_str h0
  obtain ⟨v1, rfl, w1⟩ := fits_str h1
  exact ⟨⟨v0, v1⟩, rfl, w0, w1⟩
theorem Pair.fitsS {rows : List (List PV)} (h : ∀ r ∈ rows, fitsL [.str, .str] r) : ∃ l : List Pair, rows = Pair.rows l ∧ ∀ x ∈ l, x.wf := list_of fun r hr => Pair.fits (h r hr)
theorem Pair.flat (l : List Pair) : flatRows (Pair.rows l) := fun r hr c hc => by
  obtain ⟨x, _, rfl⟩ := List.mem_map.1 hr
  simp only [Pair.cells, List.mem_cons, List.not_mem_nil, or_false] at hc
  rcases hc with rfl | rfl <;> rfl
theorem Pair.rows_len (l : List Pair) : (Pair.rows l).length = l.length := by simp [Pair.rows]
theorem c_szPair (x : Pair) (left : Nat) (hl : left ≤ 1048576) (hx : x.wf) : HFn Try.prog 84 [.agg x.cells, .int .i64 left] [] (.int .i64 (szR x.sz left)) [] := by
  unfold Pair.wf at hx
  refine hfn_intro hm Try.func84 (by kernel_rfl) rfl (by kernel_rfl) rfl ret0_ok ?_
  simp [Pair.cells, Pair.sz]
  rw [w64 (n := (left : Int) - x.key.length) (by omega) (by omega)]
  refine ⟨fun h => by rw [szR_neg (by omega)], fun h => ?_⟩
  rw [w64 (n := (left : Int) - x.key.length - x.text.length) (by omega) (by omega)]
  refine ⟨fun h => by rw [szR_neg (by omega)], fun h => by rw [szR_pos (by omega)]; omega⟩
theorem c_szPairS (l : List Pair) (left : Nat) (hl : left ≤ 1048576) (hlen : l.length ≤ 9223372036854775807) (hx : ∀ x ∈ l, x.wf) : HFn Try.prog 32 [.sl 2 (Pair.rows l), .int .i64 left] [] (.int .i64 (szR (Pair.szS l) left)) [] := by
  refine hfn_intro hm Try.func32 (by kernel_rfl) rfl (by kernel_rfl) rfl ret0_ok ?_
  simp [Pair.rows]
  rw [w64 (n := (left : Int) - l.length) (by omega) (by omega)]
  refine ⟨fun h => by rw [szR_neg (by unfold Pair.szS; omega)], fun h => ?_⟩
  refine loop_upto hm l.length (fun i => ⟨[(0, .sl 2 (Pair.rows l)), (1, .int .i64 (left - l.length - sumT Pair.sz l i)), (5, .int .i64 i)], []⟩) (fun i => l.length + sumT Pair.sz l i ≤ left) (by kernel_rfl) ?_ (by rw [sumT_zero]; omega) (fun i hi hI => ?_) (fun hI => ?_)
  · exact Wk.weak (ρ := []) (φ := []) (by simp [Pair.rows, sumT_zero])
  · have ea := List.getElem?_eq_getElem hi
    have es := sumT_succ Pair.sz hi
    have hle := sumT_le Pair.sz l (i + 1)
    have e1 : (left : Int) - l.length - sumT Pair.sz l i = ((left - l.length - sumT Pair.sz l i : Nat) : Int) := by omega
    rw [e1]
    simp [Pair.rows, hi]
    refine CallZ.use0 (c_szPair l[i] _ (by omega) (hx _ (List.getElem_mem hi))) rfl rfl ?_
    simp
    refine ⟨fun h => ?_, fun h => ?_⟩
    · have := szR_lt h
      rw [szR_neg (by unfold Pair.szS; omega)]
    · have hh := szR_ge h
      refine ⟨by omega, ?_⟩
      refine Wk.weak (ρ := []) (φ := []) ?_
      simp
      rw [w64 (by omega) (by omega), szR_pos hh]
      omega
  · simp [Pair.rows]
    rw [sumT_len] at hI ⊢
    rw [szR_pos (by unfold Pair.szS; omega)]
    unfold Pair.szS
    omega
theorem c_toPair (x : Pair) : HFn Try.prog 86 [.agg x.cells] [] (.agg x.cells) [] := by
  refine hfn_intro hm Try.func86 (by kernel_rfl) rfl (by kernel_rfl) rfl ret0_ok ?_
  simp [Pair.cells]
theorem c_toPairS (l : List Pair) (hl : l.length ≤ 1048576) : HFn Try.prog 34 [.sl 2 (Pair.rows l)] [] (.sf 0 2) [some (.arr 2 (Pair.rows l))] := by
  refine hfn_intro hm Try.func34 (by kernel_rfl) rfl (by kernel_rfl) rfl (retN_ok (ρ := [0]) (φ := [])) ?_
  simp [Pair.rows]
  refine ⟨by omega, by omega, ?_⟩
  refine loop_upto hm l.length (fun i => ⟨[(0, .sl 2 (Pair.rows l)), (3, .sf 0 2), (4, .int .i64 i)], [some (.arr 2 ((l.take i).map Pair.cells ++ List.replicate (l.length - i) [.str [], .str []]))]⟩) (fun _ => True) (by kernel_rfl) ?_ trivial (fun i hi _ => ?_) (fun _ => ?_)
  · exact Wk.weak (ρ := [0]) (φ := []) (by simp [Pair.rows])
  · obtain ⟨X, hX, hXl, hXg⟩ := filled Pair.cells l [.str [], .str []] hi
    rw [hX]
    have ea := List.getElem?_eq_getElem hi
    simp [Pair.rows, hi]
    refine CallZ.use0 (c_toPair _) rfl rfl ?_
    simp [Pair.cells, hi, hXl, hXg]
    refine Wk.weak (ρ := [0]) (φ := []) ?_
    simp
    rw [w64 (by omega) (by omega), ← hX]
    exact ⟨rfl, filled_next Pair.cells l [.str [], .str []] hi⟩
  · simp [Pair.rows]
theorem c_eqPair (a b : Pair) : HFn Try.prog 93 [.agg a.cells, .agg b.cells] [] (.bool (decide (a = b))) [] := by
  refine hfn_intro hm Try.func93 (by kernel_rfl) rfl (by kernel_rfl) rfl ret0_ok ?_
  simp [Pair.cells, Pair.eq_iff]
  grind
theorem c_eqPairS (a b : List Pair) (ha : a.length ≤ 9223372036854775807) : HFn Try.prog 37 [.sl 2 (Pair.rows a), .sl 2 (Pair.rows b)] [] (.bool (decide (a = b))) [] := by
  refine hfn_intro hm Try.func37 (by kernel_rfl) rfl (by kernel_rfl) rfl ret0_ok ?_
  simp [Pair.rows]
  refine ⟨fun h => ?_, fun h => ?_⟩
  · exact fun e => h (by rw [e])
  · refine loop_upto hm a.length (fun i => ⟨[(0, .sl 2 (Pair.rows a)), (1, .sl 2 (Pair.rows b)), (5, .int .i64 i)], []⟩) (fun i => a.take i = b.take i) (by kernel_rfl) ?_ (by simp) (fun i hi hI => ?_) (fun hI => ?_)
    · exact Wk.weak (ρ := []) (φ := []) (by simp [Pair.rows])
    · have hl : a.length = b.length := by omega
      have ea := List.getElem?_eq_getElem hi
      have hi' : i < b.length := by omega
      have eb := List.getElem?_eq_getElem hi'
      simp [Pair.rows, hi, hi']
      refine CallZ.use0 (c_eqPair a[i] b[i]) rfl rfl ?_
      simp
      refine ⟨fun h e => h (by simp [e]), fun h => ⟨take_succ_eq hI ea eb h, ?_⟩⟩
      refine Wk.weak (ρ := []) (φ := []) ?_
      simp
      exact w64 (by omega) (by omega)
    · simp [Pair.rows]
      exact eq_of_take hI (by omega)
/-- A value that the laws have marked, from number k on. -/
def Pair.mark (k : Int) : Pair := ⟨markT k, markT (k + 1)⟩
def Pair.marks (k : Int) (n : Nat) : List Pair := (List.range n).map fun i : Nat => Pair.mark (k + 2 * i)
theorem Pair.marks_len (k : Int) (n : Nat) : (Pair.marks k n).length = n := by simp [Pair.marks]
theorem c_markPairS (l : List Pair) (k : Int) (hk : 0 ≤ k) (ha : 2 * l.length + k ≤ 1000000000) : MFn Try.prog 38 [.sf 0 2, .int .i64 k] [some (.arr 2 (Pair.rows l))] [0] (.int .i64 (k + 2 * l.length)) [some (.arr 2 (Pair.rows (Pair.marks k l.length)))] := by
  refine mfn_intro [0] hm Try.func38 (by kernel_rfl) rfl (by kernel_rfl) rfl (retM_ok (ρ := [0]) (φ := [])) (by simp [Pair.rows, Pair.marks]) ?_
  simp
  refine loop_upto hm l.length (fun i => ⟨[(0, .sf 0 2), (1, .int .i64 (k + 2 * i)), (5, .int .i64 i), (29, .own 0)], [some (.arr 2 (Pair.rows (Pair.marks k i ++ l.drop i)))]⟩) (fun _ => True) (by kernel_rfl) ?_ trivial (fun i hi _ => ?_) (fun _ => ?_)
  · refine Wk.weak (ρ := [0]) (φ := []) ?_
    simp [Pair.rows, Pair.marks]
  · obtain ⟨X, hX, hl, hg⟩ := marked (fun j : Nat => Pair.mark (k + 2 * j)) l hi
    rw [show Pair.marks k i ++ l.drop i = X from hX]
    simp [Pair.rows, hl, hi]
    refine CallZ.use0 (c_markText _ (by omega)) rfl rfl ?_
    simp [Pair.cells, hl, hg, hi]
    rw [w64 (n := k + 2 * (i : Int) + 1) (by omega) (by omega)]
    refine CallZ.use0 (c_markText _ (by omega)) rfl rfl ?_
    simp [hl, hi]
    rw [w64 (n := k + 2 * (i : Int) + 1 + 1) (by omega) (by omega)]
    refine Wk.weak (ρ := [0]) (φ := []) ?_
    simp
    rw [w64 (by omega) (by omega), ← hX]
    refine ⟨by omega, ?_⟩
    exact marked_next Pair.cells (fun j : Nat => Pair.mark (k + 2 * j)) l hi
  · simp [Pair.rows, Pair.marks]
end Go.Proofs.Ytnphmemhejhooaa
