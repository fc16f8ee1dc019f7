/- Contracts: an order's place in a list. -/
import Derived.Test.YtjmoilnklaeacaaGreatDoorEb
namespace Go.Proofs.YtjmoilnklaeacaaGreatDoor
open Go Go.Ab
set_option maxRecDepth 100000

theorem c_isNaNStr (a : List UInt8) : HFn Tryz.prog 167 [.str a] [] (.bool false) [] := by
  refine hfn_intro hm Tryz.func167 (by kernel_rfl) rfl (by kernel_rfl) rfl ret0_ok ?_
  simp

/-- What cmp.Compare says of strings. -/
def cmpS (a b : List UInt8) : Int := if Op.bytesLess a b = true then -1 else if a = b then 0 else 1
theorem c_CompareStr (a b : List UInt8) : HFn Tryz.prog 124 [.str a, .str b] [] (.int .i64 (cmpS a b)) [] := by
  refine hfn_intro hm Tryz.func124 (by kernel_rfl) rfl (by kernel_rfl) rfl ret0_ok ?_
  simp
  refine CallZ.use0 (c_isNaNStr _) rfl rfl ?_
  simp
  refine CallZ.use0 (c_isNaNStr _) rfl rfl ?_
  simp [cmpS]
  grind
theorem cmpS_neg {a b : List UInt8} : cmpS a b < 0 ↔ Op.bytesLess a b = true := by unfold cmpS; grind
theorem bytesLess_irr (a : List UInt8) : Op.bytesLess a a = false := by rw [bytesLess_lt]; simp [List.lt_irrefl]
theorem cmpS_zero {a b : List UInt8} : cmpS a b = 0 ↔ a = b := by
  unfold cmpS
  by_cases e : a = b
  · subst e; simp [bytesLess_irr]
  · grind
theorem cmpS_nn {a b : List UInt8} (h : Op.bytesLess a b = false) : 0 ≤ cmpS a b := by unfold cmpS; grind

theorem c_orderAt1 (x : Order) (s : List UInt8) : HFn Tryz.prog 123 [.agg x.cells, .str s] [] (.int .i64 (cmpS x.id s)) [] := by
  refine hfn_intro hm Tryz.func123 (by kernel_rfl) rfl (by kernel_rfl) rfl ret0_ok ?_
  simp [Order.cells]
  refine CallZ.use0 (c_CompareStr _ _) rfl rfl ?_
  simp

/-- The place of the first order that is not less than an id. -/
def cutO (l : List Order) (s : List UInt8) : Nat := l.findIdx fun x => !Op.bytesLess x.id s
def cmpO (l : List Order) (s : List UInt8) (i : Nat) : Int := match l[i]? with
  | some x => cmpS x.id s
  | none => 1
theorem cmpO_at {l : List Order} {i : Nat} (hi : i < l.length) (s : List UInt8) : cmpO l s i = cmpS l[i].id s := by simp [cmpO, hi]

theorem valid_lt {l : List Order} (h : validOrders l = true) {i j : Nat} (hij : i < j) (hj : j < l.length) : l[i].id < l[j].id := by
  have step : ∀ k, (hk : k + 1 < l.length) → l[k].id < l[k + 1].id := fun k hk => by
    unfold validOrders at h
    simp only [Bool.and_eq_true] at h
    have h1 := List.all_eq_true.1 h.1 (k + 1) (List.mem_range.2 hk)
    have e1 := List.getElem?_eq_getElem hk
    have e2 := List.getElem?_eq_getElem (show k < l.length by omega)
    simp [orderAt, e1, e2] at h1
    have h2 := h1.2
    rw [bytesLess_lt] at h2
    simpa using h2
  induction j with
  | zero => omega
  | succ j ih =>
    by_cases e : i = j
    · subst e; exact step i hj
    · exact List.lt_trans (ih (by omega) (by omega) (fun k hk => step k hk)) (step j hj)

theorem cutO_cut {l : List Order} (h : validOrders l = true) (s : List UInt8) : Cut l.length (cmpO l s) (cutO l s) := by
  refine ⟨List.findIdx_le_length, fun i hi => ?_, fun i h1 h2 => ?_⟩
  · have hl : i < l.length := Nat.lt_of_lt_of_le hi List.findIdx_le_length
    rw [cmpO_at hl, cmpS_neg]
    have := List.not_of_lt_findIdx hi
    simpa using this
  · rw [cmpO_at h2]
    refine cmpS_nn ?_
    have hp : cutO l s < l.length := by omega
    have hg : (!Op.bytesLess l[cutO l s].id s) = true := List.findIdx_getElem (w := hp)
    by_cases e : i = cutO l s
    · subst e; simpa using hg
    · have h3 := valid_lt h (i := cutO l s) (j := i) (by omega) h2
      rw [bytesLess_lt] at hg ⊢
      simp only [Bool.not_eq_true', decide_eq_false_iff_not] at hg ⊢
      exact fun h4 => hg (List.lt_trans h3 h4)

/-- An order's index, or -1. -/
def findO (l : List Order) (s : List UInt8) : Int := findI (fun x => decide (x.id = s)) l
def foundO (l : List Order) (s : List UInt8) : Bool := decide (cutO l s < l.length) && decide (cmpO l s (cutO l s) = 0)

theorem findO_eq {l : List Order} (h : validOrders l = true) (s : List UInt8) : findO l s = if foundO l s = true then (cutO l s : Int) else -1 := by
  have hc := cutO_cut h s
  unfold foundO
  split
  · rename_i hf
    simp only [Bool.and_eq_true, decide_eq_true_eq] at hf
    obtain ⟨h1, h2⟩ := hf
    rw [cmpO_at h1, cmpS_zero] at h2
    refine findI_at h1 (by simpa using h2) fun j hj hlt => ?_
    have := hc.lo j hlt
    rw [cmpO_at hj] at this
    simp only [decide_eq_false_iff_not]
    intro e
    rw [cmpS_zero.2 e] at this
    omega
  · rename_i hf
    refine findI_none fun j hj => ?_
    simp only [decide_eq_false_iff_not]
    intro e
    apply hf
    have e0 := cmpS_zero.2 e
    have hle : cutO l s ≤ j := by
      by_cases g : j < cutO l s
      · have := hc.lo j g
        rw [cmpO_at hj] at this
        omega
      · omega
    by_cases g : j = cutO l s
    · subst g
      simp [hj, cmpO_at hj, e0]
    · exfalso
      have hp : cutO l s < l.length := by omega
      have h1 := hc.hi (cutO l s) (Nat.le_refl _) hp
      rw [cmpO_at hp] at h1
      have h2 := valid_lt h (i := cutO l s) (j := j) (by omega) hj
      rw [e, ← decide_eq_true_iff (p := _ < s), ← bytesLess_lt, ← cmpS_neg] at h2
      omega

theorem c_orderAt (l : List Order) (s : List UInt8) (hl : l.length ≤ 1048576) (h : validOrders l = true) :
    HFn Tryz.prog 72 [.sl 5 (Order.rows l), .str s] [] (.tup [.int .i64 (cutO l s), .bool (foundO l s)]) [] := by
  refine hfn_intro hm Tryz.func72 (by kernel_rfl) rfl (by kernel_rfl) rfl ret0_ok ?_
  simp
  refine CallZ.use0 (c_BSearchOrder l s (cmpO l s) (cutO l s) hl (cutO_cut h s) (fun i hi => by rw [cmpO_at hi]; exact c_orderAt1 _ _)) rfl rfl ?_
  simp [foundO]

theorem c_l29Find (l : List Order) (s : List UInt8) (hl : l.length ≤ 1048576) : HFn Tryz.prog 165 [.sl 5 (Order.rows l), .str s] [] (.int .i64 (findO l s)) [] := by
  refine hfn_intro hm Tryz.func165 (by kernel_rfl) rfl (by kernel_rfl) rfl ret0_ok ?_
  simp
  refine loop_upto hm l.length (fun i => ⟨[(0, .sl 5 (Order.rows l)), (1, .str s), (5, .int .i64 i)], []⟩) (fun i => ∀ j (hj : j < l.length), j < i → decide (l[j].id = s) = false) (by kernel_rfl) ?_ (fun j _ h => by omega) (fun i hi hI => ?_) (fun hI => ?_)
  · refine Wk.weak (ρ := []) (φ := []) ?_
    simp
  · simp [Order.rows, Order.cells, hi]
    refine ⟨fun h => ?_, fun h => ⟨fun j hj hji => ?_, ?_⟩⟩
    · exact (findI_at hi (by simpa using h) fun j hj hji => hI j hj hji).symm
    · by_cases e : j = i
      · subst e; exact h
      · simpa using hI j hj (by omega)
    · refine Wk.weak (ρ := []) (φ := []) ?_
      simp
      exact w64 (by omega) (by omega)
  · simp [Order.rows, findO]
    exact (findI_none fun j hj => hI j hj hj).symm
end Go.Proofs.YtjmoilnklaeacaaGreatDoor
