/- Contracts: an order is added. -/
import Derived.Test.YtaefhahgkijnfaaEd
namespace Go.Proofs.Ytaefhahgkijnfaa
open Go Go.Ab
set_option maxRecDepth 100000

/-- What AddOrder hands back. -/
def addCode (l : List Order) (x : Order) : Int := if validOrders l = true ∧ validOrder x = true then (if 0 ≤ findO l x.id then 4 else if l.length = 12 then 5 else 0) else 1
def addL (l : List Order) (x : Order) : List Order := if addCode l x = 0 then l.take (cutO l x.id) ++ x :: l.drop (cutO l x.id) else []
theorem addL_le (l : List Order) (x : Order) : (addL l x).length ≤ l.length + 1 := by
  unfold addL
  split
  · rw [List.length_append, List.length_take, List.length_cons, List.length_drop]
    omega
  · simp

theorem validOrders_le {l : List Order} (h : validOrders l = true) : l.length ≤ 12 := by
  simp only [validOrders, Bool.and_eq_true, decide_eq_true_eq] at h
  exact_mod_cast h.2

theorem findO_no {l : List Order} {s : List UInt8} (h : findO l s < 0) (i : Nat) (hi : i < l.length) : l[i].id ≠ s := fun e => by
  have h1 : decide (0 ≤ findI (fun x : Order => decide (x.id = s)) l) = l.any fun x => decide (x.id = s) := findI_any
  have h2 : l.any (fun x => decide (x.id = s)) = true := List.any_eq_true.2 ⟨l[i], List.getElem_mem hi, by simpa using e⟩
  rw [h2] at h1
  have h3 : 0 ≤ findO l s := by simpa [findO] using h1
  omega
theorem foundO_no {l : List Order} {s : List UInt8} (hv : validOrders l = true) (h : findO l s < 0) : foundO l s = false := by
  have := findO_eq hv s
  cases hf : foundO l s with
  | false => rfl
  | true => rw [hf, if_pos rfl] at this; omega
theorem foundO_yes {l : List Order} {s : List UInt8} (hv : validOrders l = true) (h : 0 ≤ findO l s) : foundO l s = true := by
  have := findO_eq hv s
  cases hf : foundO l s with
  | true => rfl
  | false => rw [hf, if_neg (by simp)] at this; omega

/-- Of an order that is not there: what is greater lies from its place on. -/
theorem cut_gt {l : List Order} {s : List UInt8} (hv : validOrders l = true) (h : findO l s < 0) (i : Nat) (hi : i < l.length) : (Op.bytesLess l[i].id s || decide (l[i].id = s)) = decide (i < cutO l s) := by
  have hc := cutO_cut hv s
  have hne := findO_no h i hi
  by_cases g : i < cutO l s
  · have h1 := hc.lo i g
    rw [cmpO_at hi, cmpS_neg] at h1
    simp [h1, g]
  · have h1 := hc.hi i (by omega) hi
    rw [cmpO_at hi] at h1
    have h2 : Op.bytesLess l[i].id s = false := by
      cases hb : Op.bytesLess l[i].id s with
      | false => rfl
      | true => rw [← cmpS_neg] at hb; omega
    simp [h2, hne, g]

end Go.Proofs.Ytaefhahgkijnfaa
