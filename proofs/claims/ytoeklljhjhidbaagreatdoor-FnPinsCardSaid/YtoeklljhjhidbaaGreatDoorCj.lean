/- Contracts: sequences of orders, the days on which they end. -/
import Derived.Test.YtoeklljhjhidbaaGreatDoorCh
import Derived.Test.YtoeklljhjhidbaaGreatDoorTI
namespace Go.Proofs.YtoeklljhjhidbaaGreatDoor
open Go Go.Ab
set_option maxRecDepth 100000

/-! ### Sequences -/

/-- Index i of a sequence is one of an order, and new. -/
def seqAt (n : Nat) (order : List Int) (i : Nat) : Bool := match order[i]? with
  | some k => (decide (0 ≤ k) && decide (k ≤ (n : Int) - 1)) && !((order.take i).any fun x => decide (k = x))
  | none => true
theorem seqAt_iff {n : Nat} {order : List Int} {i : Nat} (hi : i < order.length) : seqAt n order i = true ↔ 0 ≤ order[i] ∧ order[i] ≤ (n : Int) - 1 ∧ ∀ x, x ∈ order.take i → ¬ order[i] = x := by
  simp only [seqAt, List.getElem?_eq_getElem hi]
  simp
  constructor
  · rintro ⟨⟨h1, h2⟩, h3⟩
    exact ⟨h1, h2, h3⟩
  · rintro ⟨h1, h2, h3⟩
    exact ⟨⟨h1, h2⟩, h3⟩
def seqOk (n : Nat) (order : List Int) : Bool := (List.range order.length).all (seqAt n order)
/-! ### The days on which orders are done -/

def sumI (f : Int → Int) (l : List Int) (i : Nat) : Int := ((l.take i).map f).sum
theorem sumI_zero (f : Int → Int) (l : List Int) : sumI f l 0 = 0 := rfl
theorem sumI_succ (f : Int → Int) {l : List Int} {i : Nat} (h : i < l.length) : sumI f l (i + 1) = sumI f l i + f l[i] := by
  unfold sumI
  rw [List.take_add_one, List.getElem?_eq_getElem h, List.map_append, List.sum_append]
  simp
end Go.Proofs.YtoeklljhjhidbaaGreatDoor
