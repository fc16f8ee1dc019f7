/- Contracts: sequences of orders, the days on which they end. -/
import Derived.Test.YtndbhcnedfbcoaaDoorCh
import Derived.Test.YtndbhcnedfbcoaaDoorTI
namespace Go.Proofs.YtndbhcnedfbcoaaDoor
open Go Go.Ab
set_option maxRecDepth 100000

theorem c_IndexInt (l : List Int) (v : Int) (hl : l.length ≤ 9223372036854775807) : HFn Tryd.prog 48 [.sl 1 (intRows l), .int .i64 v] [] (.int .i64 (findI (fun x => decide (v = x)) l)) [] := by
  refine hfn_intro hm Tryd.func48 (by kernel_rfl) rfl (by kernel_rfl) rfl ret0_ok ?_
  simp [intRows]
  refine loop_upto hm l.length (fun i => ⟨[(0, .sl 1 (intRows l)), (1, .int .i64 v), (7, .int .i64 l.length), (8, .int .i64 i)], []⟩) (fun i => ∀ j (h : j < l.length), j < i → decide (v = l[j]) = false) (by kernel_rfl) ?_ (by simp) (fun i hi hI => ?_) (fun hI => ?_)
  · exact Wk.weak (ρ := []) (φ := []) (by simp [intRows])
  · simp [intRows, hi]
    refine ⟨fun h => (findI_at hi (by simpa using h) hI).symm, fun h => ⟨fun j hj hji => ?_, ?_⟩⟩
    · by_cases e : j = i
      · subst e; exact h
      · simpa using hI j hj (by omega)
    · refine Wk.weak (ρ := []) (φ := []) ?_
      simp
      exact w64 (by omega) (by omega)
  · simp [intRows]
    exact (findI_none fun j hj => hI j hj hj).symm

theorem c_ContainsInt (l : List Int) (v : Int) (hl : l.length ≤ 9223372036854775807) : HFn Tryd.prog 37 [.sl 1 (intRows l), .int .i64 v] [] (.bool (l.any fun x => decide (v = x))) [] := by
  refine hfn_intro hm Tryd.func37 (by kernel_rfl) rfl (by kernel_rfl) rfl ret0_ok ?_
  simp
  refine CallZ.use0 (c_IndexInt l v hl) rfl rfl ?_
  simp
  exact findI_any

theorem c_l00Has (l : List Int) (v : Int) (hl : l.length ≤ 9223372036854775807) : HFn Tryd.prog 41 [.sl 1 (intRows l), .int .i64 v] [] (.bool (l.any fun x => decide (v = x))) [] := by
  refine hfn_intro hm Tryd.func41 (by kernel_rfl) rfl (by kernel_rfl) rfl ret0_ok ?_
  simp [intRows]
  refine loop_upto hm l.length (fun i => ⟨[(0, .sl 1 (intRows l)), (1, .int .i64 v), (5, .int .i64 i)], []⟩) (fun i => ∀ j (h : j < l.length), j < i → ¬ v = l[j]) (by kernel_rfl) ?_ (by simp) (fun i hi hI => ?_) (fun hI => ?_)
  · exact Wk.weak (ρ := []) (φ := []) (by simp [intRows])
  · simp [intRows, hi]
    refine ⟨fun h => by rw [← h]; exact List.getElem_mem hi, fun h => ⟨fun j hj hji => ?_, ?_⟩⟩
    · by_cases e : j = i
      · subst e; exact fun h' => h h'.symm
      · exact hI j hj (by omega)
    · refine Wk.weak (ρ := []) (φ := []) ?_
      simp
      exact w64 (by omega) (by omega)
  · simp [intRows]
    intro x hx e
    obtain ⟨j, hj, e'⟩ := List.getElem_of_mem hx
    exact hI j hj hj (e.trans e'.symm)

/-! ### Sequences -/

/-- Index i of a sequence is one of an order, and new. -/
def seqAt (n : Nat) (order : List Int) (i : Nat) : Bool := match order[i]? with
  | some k => (decide (0 ≤ k) && decide (k ≤ (n : Int) - 1)) && !((order.take i).any fun x => decide (k = x))
  | none => true
theorem seqAt_iff {n : Nat} {order : List Int} {i : Nat} (hi : i < order.length) : seqAt n order i = true ↔ 0 ≤ order[i] ∧ order[i] ≤ (n : Int) - 1 ∧ ∀ x, x ∈ order.take i → ¬ order[i] = x := by
  simp only [seqAt, List.getElem?_eq_getElem hi]
  simp
  constructor
  · rintro ⟨⟨h1, h2⟩, h3⟩
    exact ⟨h1, h2, h3⟩
  · rintro ⟨h1, h2, h3⟩
    exact ⟨⟨h1, h2⟩, h3⟩
def seqOk (n : Nat) (order : List Int) : Bool := (List.range order.length).all (seqAt n order)
/-! ### The days on which orders are done -/

def sumI (f : Int → Int) (l : List Int) (i : Nat) : Int := ((l.take i).map f).sum
theorem sumI_zero (f : Int → Int) (l : List Int) : sumI f l 0 = 0 := rfl
theorem sumI_succ (f : Int → Int) {l : List Int} {i : Nat} (h : i < l.length) : sumI f l (i + 1) = sumI f l i + f l[i] := by
  unfold sumI
  rw [List.take_add_one, List.getElem?_eq_getElem h, List.map_append, List.sum_append]
  simp
end Go.Proofs.YtndbhcnedfbcoaaDoor
