/- Contracts: slices.BinarySearchFunc.; Contracts: an order's place in a list.; Contracts: an order is removed. -/
import Derived.Test.YtnfjkfjbhdlphaaGreatDd
import Derived.Test.YtnfjkfjbhdlphaaGreatLOrder
-- from Eb
namespace Go.Proofs.YtnfjkfjbhdlphaaGreat
open Go Go.Ab
set_option maxRecDepth 100000

/-- Where what is less ends, if all that is less lies ahead. -/
structure Cut (n : Nat) (c : Nat → Int) (p : Nat) : Prop where
  le : p ≤ n
  lo : ∀ i, i < p → c i < 0
  hi : ∀ i, p ≤ i → i < n → 0 ≤ c i

theorem mid_eq (i j : Nat) (h : i + j ≤ 9223372036854775807) : IntKind.i64.wrap ((IntKind.u64.wrap (IntKind.i64.wrap ((i : Int) + j))).fdiv (2 ^ min 1 IntKind.u64.bits)) = (((i + j) / 2 : Nat) : Int) := by
  rw [w64 (n := (i : Int) + j) (by omega) (by omega)]
  have e : IntKind.u64.wrap ((i : Int) + j) = ((i : Int) + j) % 18446744073709551616 := rfl
  have e2 : (2 : Int) ^ min 1 IntKind.u64.bits = 2 := rfl
  rw [e, e2, Int.fdiv_eq_ediv_of_nonneg _ (by omega)]
  rw [w64 (by omega) (by omega)]
  omega

end Go.Proofs.YtnfjkfjbhdlphaaGreat
-- from Ec
namespace Go.Proofs.YtnfjkfjbhdlphaaGreat
open Go Go.Ab
set_option maxRecDepth 100000

/-- What cmp.Compare says of strings. -/
def cmpS (a b : List UInt8) : Int := if Op.bytesLess a b = true then -1 else if a = b then 0 else 1
theorem cmpS_neg {a b : List UInt8} : cmpS a b < 0 ↔ Op.bytesLess a b = true := by unfold cmpS; grind
theorem bytesLess_irr (a : List UInt8) : Op.bytesLess a a = false := by rw [bytesLess_lt]; simp [List.lt_irrefl]
theorem cmpS_zero {a b : List UInt8} : cmpS a b = 0 ↔ a = b := by
  unfold cmpS
  by_cases e : a = b
  · subst e; simp [bytesLess_irr]
  · grind
theorem cmpS_nn {a b : List UInt8} (h : Op.bytesLess a b = false) : 0 ≤ cmpS a b := by unfold cmpS; grind

/-- The place of the first order that is not less than an id. -/
def cutO (l : List Order) (s : List UInt8) : Nat := l.findIdx fun x => !Op.bytesLess x.id s
def cmpO (l : List Order) (s : List UInt8) (i : Nat) : Int := match l[i]? with
  | some x => cmpS x.id s
  | none => 1
theorem cmpO_at {l : List Order} {i : Nat} (hi : i < l.length) (s : List UInt8) : cmpO l s i = cmpS l[i].id s := by simp [cmpO, hi]

theorem valid_lt {l : List Order} (h : validOrders l = true) {i j : Nat} (hij : i < j) (hj : j < l.length) : l[i].id < l[j].id := by
  have step : ∀ k, (hk : k + 1 < l.length) → l[k].id < l[k + 1].id := fun k hk => by
    unfold validOrders at h
    simp only [Bool.and_eq_true] at h
    have h1 := List.all_eq_true.1 h.1 (k + 1) (List.mem_range.2 hk)
    have e1 := List.getElem?_eq_getElem hk
    have e2 := List.getElem?_eq_getElem (show k < l.length by omega)
    simp [orderAt, e1, e2] at h1
    have h2 := h1.2
    rw [bytesLess_lt] at h2
    simpa using h2
  induction j with
  | zero => omega
  | succ j ih =>
    by_cases e : i = j
    · subst e; exact step i hj
    · exact List.lt_trans (ih (by omega) (by omega) (fun k hk => step k hk)) (step j hj)

theorem cutO_cut {l : List Order} (h : validOrders l = true) (s : List UInt8) : Cut l.length (cmpO l s) (cutO l s) := by
  refine ⟨List.findIdx_le_length, fun i hi => ?_, fun i h1 h2 => ?_⟩
  · have hl : i < l.length := Nat.lt_of_lt_of_le hi List.findIdx_le_length
    rw [cmpO_at hl, cmpS_neg]
    have := List.not_of_lt_findIdx hi
    simpa using this
  · rw [cmpO_at h2]
    refine cmpS_nn ?_
    have hp : cutO l s < l.length := by omega
    have hg : (!Op.bytesLess l[cutO l s].id s) = true := List.findIdx_getElem (w := hp)
    by_cases e : i = cutO l s
    · subst e; simpa using hg
    · have h3 := valid_lt h (i := cutO l s) (j := i) (by omega) h2
      rw [bytesLess_lt] at hg ⊢
      simp only [Bool.not_eq_true', decide_eq_false_iff_not] at hg ⊢
      exact fun h4 => hg (List.lt_trans h3 h4)

/-- An order's index, or -1. -/
def findO (l : List Order) (s : List UInt8) : Int := findI (fun x => decide (x.id = s)) l
def foundO (l : List Order) (s : List UInt8) : Bool := decide (cutO l s < l.length) && decide (cmpO l s (cutO l s) = 0)

theorem findO_eq {l : List Order} (h : validOrders l = true) (s : List UInt8) : findO l s = if foundO l s = true then (cutO l s : Int) else -1 := by
  have hc := cutO_cut h s
  unfold foundO
  split
  · rename_i hf
    simp only [Bool.and_eq_true, decide_eq_true_eq] at hf
    obtain ⟨h1, h2⟩ := hf
    rw [cmpO_at h1, cmpS_zero] at h2
    refine findI_at h1 (by simpa using h2) fun j hj hlt => ?_
    have := hc.lo j hlt
    rw [cmpO_at hj] at this
    simp only [decide_eq_false_iff_not]
    intro e
    rw [cmpS_zero.2 e] at this
    omega
  · rename_i hf
    refine findI_none fun j hj => ?_
    simp only [decide_eq_false_iff_not]
    intro e
    apply hf
    have e0 := cmpS_zero.2 e
    have hle : cutO l s ≤ j := by
      by_cases g : j < cutO l s
      · have := hc.lo j g
        rw [cmpO_at hj] at this
        omega
      · omega
    by_cases g : j = cutO l s
    · subst g
      simp [hj, cmpO_at hj, e0]
    · exfalso
      have hp : cutO l s < l.length := by omega
      have h1 := hc.hi (cutO l s) (Nat.le_refl _) hp
      rw [cmpO_at hp] at h1
      have h2 := valid_lt h (i := cutO l s) (j := j) (by omega) hj
      rw [e, ← decide_eq_true_iff (p := _ < s), ← bytesLess_lt, ← cmpS_neg] at h2
      omega

end Go.Proofs.YtnfjkfjbhdlphaaGreat
-- from Ed
namespace Go.Proofs.YtnfjkfjbhdlphaaGreat
open Go Go.Ab
set_option maxRecDepth 100000

/-- What DropOrder hands back. -/
def dropCode (l : List Order) (s : List UInt8) : Int := if validOrders l = true then (if findO l s < 0 then 3 else 0) else 1
def dropL (l : List Order) (s : List UInt8) : List Order := if dropCode l s = 0 then l.take (findO l s).toNat ++ l.drop ((findO l s).toNat + 1) else []

theorem findI_lt {α : Type} {p : α → Bool} {l : List α} : findI p l < l.length := by
  unfold findI
  cases h : l.findIdx? p with
  | none => simp only; omega
  | some k =>
    obtain ⟨h1, _⟩ := List.findIdx?_eq_some_iff_getElem.1 h
    simp only
    omega
theorem dropL_le (l : List Order) (s : List UInt8) : (dropL l s).length ≤ l.length := by
  unfold dropL
  split
  · rw [List.length_append, List.length_take, List.length_drop]
    omega
  · simp

theorem Order.rowsOne (l : List Order) : rowsOne (Order.rows l) := fun r hr => by
  obtain ⟨x, _, rfl⟩ := List.mem_map.1 hr
  simp [Order.cells]

end Go.Proofs.YtnfjkfjbhdlphaaGreat
