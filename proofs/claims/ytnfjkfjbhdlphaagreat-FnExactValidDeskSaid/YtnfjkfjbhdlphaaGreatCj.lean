/- Contracts: sequences of orders, the days on which they end. -/
import Derived.Test.YtnfjkfjbhdlphaaGreatCh
import Derived.Test.YtnfjkfjbhdlphaaGreatTI
namespace Go.Proofs.YtnfjkfjbhdlphaaGreat
open Go Go.Ab
set_option maxRecDepth 100000

/-! ### Sequences -/

/-- Index i of a sequence is one of an order, and new. -/
def seqAt (n : Nat) (order : List Int) (i : Nat) : Bool := match order[i]? with
  | some k => (decide (0 ≤ k) && decide (k ≤ (n : Int) - 1)) && !((order.take i).any fun x => decide (k = x))
  | none => true
theorem seqAt_iff {n : Nat} {order : List Int} {i : Nat} (hi : i < order.length) : seqAt n order i = true ↔ 0 ≤ order[i] ∧ order[i] ≤ (n : Int) - 1 ∧ ∀ x, x ∈ order.take i → ¬ order[i] = x := by
  simp only [seqAt, List.getElem?_eq_getElem hi]
  simp
  constructor
  · rintro ⟨⟨h1, h2⟩, h3⟩
    exact ⟨h1, h2, h3⟩
  · rintro ⟨h1, h2, h3⟩
    exact ⟨⟨h1, h2⟩, h3⟩
def seqOk (n : Nat) (order : List Int) : Bool := (List.range order.length).all (seqAt n order)
def seqCode (l : List Order) (order : List Int) (start : Int) : Int :=
  if validOrders l = true then (if 0 ≤ start ∧ start ≤ 10000 then (if seqOk l.length order = true then 0 else 7) else 2) else 1

/-! ### The days on which orders are done -/

def dayOf (l : List Order) (k : Int) : Int := match l[k.toNat]? with
  | some x => x.days
  | none => 0
def sumI (f : Int → Int) (l : List Int) (i : Nat) : Int := ((l.take i).map f).sum
theorem sumI_zero (f : Int → Int) (l : List Int) : sumI f l 0 = 0 := rfl
theorem sumI_succ (f : Int → Int) {l : List Int} {i : Nat} (h : i < l.length) : sumI f l (i + 1) = sumI f l i + f l[i] := by
  unfold sumI
  rw [List.take_add_one, List.getElem?_eq_getElem h, List.map_append, List.sum_append]
  simp
def endAt (l : List Order) (order : List Int) (start : Int) (i : Nat) : Int := start + sumI (dayOf l) order (i + 1)
def endsOf (l : List Order) (order : List Int) (start : Int) : List Int := (List.range order.length).map (endAt l order start)
theorem endsOf_len (l : List Order) (order : List Int) (start : Int) : (endsOf l order start).length = order.length := by simp [endsOf]

theorem valid_mem {l : List Order} (hv : validOrders l = true) {x : Order} (hx : x ∈ l) : validOrder x = true := by
  simp only [validOrders, Bool.and_eq_true, List.all_eq_true, List.mem_range] at hv
  obtain ⟨i, hi, rfl⟩ := List.getElem_of_mem hx
  have := hv.1 i hi
  simp only [orderAt, List.getElem?_eq_getElem hi, Bool.and_eq_true] at this
  exact this.1
theorem valid_days {x : Order} (hv : validOrder x = true) : 1 ≤ x.days ∧ x.days ≤ 100 ∧ 0 ≤ x.due ∧ x.due ≤ 10000 := by
  simp [validOrder] at hv
  omega
theorem dayOf_le {l : List Order} (hv : validOrders l = true) (k : Int) : 0 ≤ dayOf l k ∧ dayOf l k ≤ 100 := by
  unfold dayOf
  split
  · rename_i x hx
    have := valid_days (valid_mem hv (List.mem_of_getElem? hx))
    omega
  · omega
theorem sum_le {l : List Order} (hv : validOrders l = true) (order : List Int) : ∀ i, i ≤ order.length → 0 ≤ sumI (dayOf l) order i ∧ sumI (dayOf l) order i ≤ 100 * i
  | 0, _ => by simp [sumI_zero]
  | i + 1, h => by
    have h1 := sum_le hv order i (by omega)
    rw [sumI_succ _ (by omega)]
    have h2 := dayOf_le hv order[i]
    omega

/-- What is known once a sequence is one of orders. -/
structure SeqOk (l : List Order) (order : List Int) (start : Int) : Prop where
  valid : validOrders l = true
  s0 : 0 ≤ start
  s1 : start ≤ 10000
  at_ : ∀ i (h : i < order.length), 0 ≤ order[i] ∧ order[i] ≤ (l.length : Int) - 1

theorem seqOk_of {l : List Order} {order : List Int} {start : Int} (h : seqCode l order start = 0) : SeqOk l order start := by
  unfold seqCode at h
  split at h
  · rename_i hv
    split at h
    · rename_i hs
      split at h
      · rename_i ho
        refine ⟨hv, hs.1, hs.2, fun i hi => ?_⟩
        have := List.all_eq_true.1 ho i (List.mem_range.2 hi)
        have := (seqAt_iff hi).1 this
        exact ⟨this.1, this.2.1⟩
      · omega
    · omega
  · omega

/-- What EndsOf hands back: nothing where there is an error. -/
def endsR (l : List Order) (order : List Int) (start : Int) : List Int := if seqCode l order start = 0 then endsOf l order start else []

theorem endsR_le (l : List Order) (order : List Int) (start : Int) : (endsR l order start).length ≤ order.length := by
  unfold endsR
  split
  · simp [endsOf]
  · simp

end Go.Proofs.YtnfjkfjbhdlphaaGreat
