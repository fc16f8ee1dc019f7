/- The type Order as plain data, and what the functions of package laws do with it. No condition. -/
import Derived.Test.YtnfjkfjbhdlphaaGreatCd
import Derived.Test.YtnfjkfjbhdlphaaGreatKd
namespace Go.Proofs.YtnfjkfjbhdlphaaGreat
open Go Go.Ab

set_option maxRecDepth 100000

structure Order where
  id : List UInt8
  mass : Int
  note : Int
  days : Int
  due : Int
theorem Order.eq_iff {a b : Order} : a = b ↔ a.id = b.id ∧ a.mass = b.mass ∧ a.note = b.note ∧ a.days = b.days ∧ a.due = b.due := by cases a; cases b; simp
instance : DecidableEq Order := fun _ _ => decidable_of_iff _ Order.eq_iff.symm
def Order.cells (x : Order) : List PV := [.str x.id, .int .i64 x.mass, .int .i64 x.note, .int .i64 x.days, .int .i64 x.due]
def Order.rows (l : List Order) : List (List PV) := l.map Order.cells
/-- What the laws count of a value. -/
def Order.sz (x : Order) : Nat := x.id.length
def Order.szS (l : List Order) : Nat := l.length + (l.map Order.sz).sum
/-- The values that arguments have. -/
def Order.wf (x : Order) : Prop := x.id.length ≤ 9223372036854775807 ∧ -9223372036854775808 ≤ x.mass ∧ x.mass ≤ 9223372036854775807 ∧ -9223372036854775808 ≤ x.note ∧ x.note ≤ 9223372036854775807 ∧ -9223372036854775808 ≤ x.days ∧ x.days ≤ 9223372036854775807 ∧ -9223372036854775808 ≤ x.due ∧ x.due ≤ 9223372036854775807
theorem Order.fits {cs : List PV} (h : fitsL [.str, .int .i64, .int .i64, .int .i64, .int .i64] cs) : ∃ x : Order, cs = x.cells ∧ x.wf := by
  obtain ⟨_, _, rfl, h0, h⟩ := fitsL_cons h
  obtain ⟨_, _, rfl, h1, h⟩ := fitsL_cons h
  obtain ⟨_, _, rfl, h2, h⟩ := fitsL_cons h
  obtain ⟨_, _, rfl, h3, h⟩ := fitsL_cons h
  obtain ⟨_, _, rfl, h4, h⟩ := fitsL_cons h
  obtain rfl := fitsL_nil h
  obtain ⟨v0, rfl, w0⟩ := fits_str h0
  obtain ⟨v1, rfl, w1⟩ := fits_int h1
  obtain ⟨v2, rfl, w2⟩ := fits_int h2
  obtain ⟨v3, rfl, w3⟩ := fits_int h3
  obtain ⟨v4, rfl, w4⟩ := fits_int h4
  exact ⟨⟨v0, v1, v2, v3, v4⟩, rfl, w0, (lit64 w1).1, (lit64 w1).2, (lit64 w2).1, (lit64 w2).2, (lit64 w3).1, (lit64 w3).2, (lit64 w4).1, (lit64 w4).2⟩
theorem Order.fitsS {rows : List (List PV)} (h : ∀ r ∈ rows, fitsL [.str, .int .i64, .int .i64, .int .i64, .int .i64] r) : ∃ l : List Order, rows = Order.rows l ∧ ∀ x ∈ l, x.wf := list_of fun r hr => Order.fits (h r hr)
theorem Order.flat (l : List Order) : flatRows (Order.rows l) := fun r hr c hc => by
  obtain ⟨x, _, rfl⟩ := List.mem_map.1 hr
  simp only [Order.cells, List.mem_cons, List.not_mem_nil, or_false] at hc
  rcases hc with rfl | rfl | rfl | rfl | rfl <;> rfl
theorem Order.rows_len (l : List Order) : (Order.rows l).length = l.length := by simp [Order.rows]
theorem Order.one (l : List Order) : Go.Ab.rowsOne (Order.rows l) := fun r hr => by obtain ⟨x, _, rfl⟩ := List.mem_map.1 hr; rfl
theorem c_szOrder (x : Order) (left : Nat) (hl : left ≤ 1048576) (hx : x.wf) : HFn Tryz.prog 84 [.agg x.cells, .int .i64 left] [] (.int .i64 (szR x.sz left)) [] := by
  unfold Order.wf at hx
  refine hfn_intro hm Tryz.func84 (by kernel_rfl) rfl (by kernel_rfl) rfl ret0_ok ?_
  simp [Order.cells, Order.sz]
  rw [w64 (n := (left : Int) - x.id.length) (by omega) (by omega)]
  refine ⟨fun h => by rw [szR_neg (by omega)], fun h => by rw [szR_pos (by omega)]⟩
theorem c_szOrderS (l : List Order) (left : Nat) (hl : left ≤ 1048576) (hlen : l.length ≤ 9223372036854775807) (hx : ∀ x ∈ l, x.wf) : HFn Tryz.prog 18 [.sl 5 (Order.rows l), .int .i64 left] [] (.int .i64 (szR (Order.szS l) left)) [] := by
  refine hfn_intro hm Tryz.func18 (by kernel_rfl) rfl (by kernel_rfl) rfl ret0_ok ?_
  simp [Order.rows]
  rw [w64 (n := (left : Int) - l.length) (by omega) (by omega)]
  refine ⟨fun h => by rw [szR_neg (by unfold Order.szS; omega)], fun h => ?_⟩
  refine loop_upto hm l.length (fun i => ⟨[(0, .sl 5 (Order.rows l)), (1, .int .i64 (left - l.length - sumT Order.sz l i)), (5, .int .i64 i)], []⟩) (fun i => l.length + sumT Order.sz l i ≤ left) (by kernel_rfl) ?_ (by rw [sumT_zero]; omega) (fun i hi hI => ?_) (fun hI => ?_)
  · exact Wk.weak (ρ := []) (φ := []) (by simp [Order.rows, sumT_zero])
  · have ea := List.getElem?_eq_getElem hi
    have es := sumT_succ Order.sz hi
    have hle := sumT_le Order.sz l (i + 1)
    have e1 : (left : Int) - l.length - sumT Order.sz l i = ((left - l.length - sumT Order.sz l i : Nat) : Int) := by omega
    rw [e1]
    simp [Order.rows, hi]
    refine CallZ.use0 (c_szOrder l[i] _ (by omega) (hx _ (List.getElem_mem hi))) rfl rfl ?_
    simp
    refine ⟨fun h => ?_, fun h => ?_⟩
    · have := szR_lt h
      rw [szR_neg (by unfold Order.szS; omega)]
    · have hh := szR_ge h
      refine ⟨by omega, ?_⟩
      refine Wk.weak (ρ := []) (φ := []) ?_
      simp
      rw [w64 (by omega) (by omega), szR_pos hh]
      omega
  · simp [Order.rows]
    rw [sumT_len] at hI ⊢
    rw [szR_pos (by unfold Order.szS; omega)]
    unfold Order.szS
    omega
theorem c_toOrder (x : Order) : HFn Tryz.prog 91 [.agg x.cells] [] (.agg x.cells) [] := by
  refine hfn_intro hm Tryz.func91 (by kernel_rfl) rfl (by kernel_rfl) rfl ret0_ok ?_
  simp [Order.cells]
theorem c_toOrderS (l : List Order) (hl : l.length ≤ 1048576) : HFn Tryz.prog 23 [.sl 5 (Order.rows l)] [] (.sf 0 5) [some (.arr 5 (Order.rows l))] := by
  refine hfn_intro hm Tryz.func23 (by kernel_rfl) rfl (by kernel_rfl) rfl (retN_ok (ρ := [0]) (φ := [])) ?_
  simp [Order.rows]
  refine ⟨by omega, by omega, ?_⟩
  refine loop_upto hm l.length (fun i => ⟨[(0, .sl 5 (Order.rows l)), (3, .sf 0 5), (4, .int .i64 i)], [some (.arr 5 ((l.take i).map Order.cells ++ List.replicate (l.length - i) [.str [], .int .i64 0, .int .i64 0, .int .i64 0, .int .i64 0]))]⟩) (fun _ => True) (by kernel_rfl) ?_ trivial (fun i hi _ => ?_) (fun _ => ?_)
  · exact Wk.weak (ρ := [0]) (φ := []) (by simp [Order.rows])
  · obtain ⟨X, hX, hXl, hXg⟩ := filled Order.cells l [.str [], .int .i64 0, .int .i64 0, .int .i64 0, .int .i64 0] hi
    rw [hX]
    have ea := List.getElem?_eq_getElem hi
    simp [Order.rows, hi]
    refine CallZ.use0 (c_toOrder _) rfl rfl ?_
    simp [Order.cells, hi, hXl, hXg]
    refine Wk.weak (ρ := [0]) (φ := []) ?_
    simp
    rw [w64 (by omega) (by omega), ← hX]
    exact ⟨rfl, filled_next Order.cells l [.str [], .int .i64 0, .int .i64 0, .int .i64 0, .int .i64 0] hi⟩
  · simp [Order.rows]
theorem c_toOrderSF (l : List Order) (hl : l.length ≤ 1048576) : HFn Tryz.prog 23 [.sl 5 (Order.rows l)] [] (.sl 5 (Order.rows l)) [] := (c_toOrderS l hl).less (Wk.weak (ρ := []) (φ := [0]) (by simp))
theorem c_eqOrder (a b : Order) : HFn Tryz.prog 103 [.agg a.cells, .agg b.cells] [] (.bool (decide (a = b))) [] := by
  refine hfn_intro hm Tryz.func103 (by kernel_rfl) rfl (by kernel_rfl) rfl ret0_ok ?_
  simp [Order.cells, Order.eq_iff]
  grind
theorem c_eqOrderS (a b : List Order) (ha : a.length ≤ 9223372036854775807) : HFn Tryz.prog 37 [.sl 5 (Order.rows a), .sl 5 (Order.rows b)] [] (.bool (decide (a = b))) [] := by
  refine hfn_intro hm Tryz.func37 (by kernel_rfl) rfl (by kernel_rfl) rfl ret0_ok ?_
  simp [Order.rows]
  refine ⟨fun h => ?_, fun h => ?_⟩
  · exact fun e => h (by rw [e])
  · refine loop_upto hm a.length (fun i => ⟨[(0, .sl 5 (Order.rows a)), (1, .sl 5 (Order.rows b)), (5, .int .i64 i)], []⟩) (fun i => a.take i = b.take i) (by kernel_rfl) ?_ (by simp) (fun i hi hI => ?_) (fun hI => ?_)
    · exact Wk.weak (ρ := []) (φ := []) (by simp [Order.rows])
    · have hl : a.length = b.length := by omega
      have ea := List.getElem?_eq_getElem hi
      have hi' : i < b.length := by omega
      have eb := List.getElem?_eq_getElem hi'
      simp [Order.rows, hi, hi']
      refine CallZ.use0 (c_eqOrder a[i] b[i]) rfl rfl ?_
      simp
      refine ⟨fun h e => h (by simp [e]), fun h => ⟨take_succ_eq hI ea eb h, ?_⟩⟩
      refine Wk.weak (ρ := []) (φ := []) ?_
      simp
      exact w64 (by omega) (by omega)
    · simp [Order.rows]
      exact eq_of_take hI (by omega)
theorem c_EqualOrder (a b : List Order) (ha : a.length ≤ 9223372036854775807) : HFn Tryz.prog 101 [.sl 5 (Order.rows a), .sl 5 (Order.rows b)] [] (.bool (decide (a = b))) [] := by
  refine hfn_intro hm Tryz.func101 (by kernel_rfl) rfl (by kernel_rfl) rfl ret0_ok ?_
  simp [Order.rows]
  refine ⟨fun h => ?_, fun h => ?_⟩
  · exact fun e => h (by rw [e])
  · refine loop_upto hm a.length (fun i => ⟨[(0, .sl 5 (Order.rows a)), (1, .sl 5 (Order.rows b)), (12, .int .i64 a.length), (13, .int .i64 i)], []⟩) (fun i => a.take i = b.take i) (by kernel_rfl) ?_ (by simp) (fun i hi hI => ?_) (fun hI => ?_)
    · exact Wk.weak (ρ := []) (φ := []) (by simp [Order.rows])
    · have hl : a.length = b.length := by omega
      have ea := List.getElem?_eq_getElem hi
      have hi' : i < b.length := by omega
      have eb := List.getElem?_eq_getElem hi'
      simp [Order.rows, Order.cells, hi, hi']
      refine ⟨fun h e => ?_, fun q0 q1 q2 q3 q4 => ⟨take_succ_eq hI ea eb (Order.eq_iff.2 ⟨q0, q1, q2, q3, q4⟩), ?_⟩⟩
      · subst e; simp at h
      · refine Wk.weak (ρ := []) (φ := []) ?_
        simp
        exact w64 (by omega) (by omega)
    · simp [Order.rows]
      exact eq_of_take hI (by omega)
end Go.Proofs.YtnfjkfjbhdlphaaGreat
