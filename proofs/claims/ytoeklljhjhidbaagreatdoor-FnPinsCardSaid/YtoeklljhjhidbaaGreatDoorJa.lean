/- Contracts: numbers and lists of numbers as text. -/
import Derived.Test.YtoeklljhjhidbaaGreatDoorTI
import Derived.Test.YtoeklljhjhidbaaGreatDoorBa
import Derived.Lib.ItoaNum
import Derived.Lib.ItoaLen
import Derived.Lib.Join
namespace Go.Proofs.YtoeklljhjhidbaaGreatDoor
open Go Go.Ab
set_option maxRecDepth 100000

theorem bytesV_len (l : List UInt8) : (bytesV l).length = l.length := by simp [bytesV]
theorem bytesV_get (l : List UInt8) (i : Nat) : (bytesV l)[i]? = (l[i]?).map fun b => [PV.int .u8 b.toNat] := by simp [bytesV]
theorem bytesV_getE (l : List UInt8) {i : Nat} (h : i < (bytesV l).length) : (bytesV l)[i] = [PV.int .u8 (l[i]'(by rw [bytesV_len] at h; exact h)).toNat] := by simp [bytesV]
theorem bytesV_app (a b : List UInt8) : bytesV (a ++ b) = bytesV a ++ bytesV b := by simp [bytesV]
theorem bytesV_one (b : UInt8) : bytesV [b] = [[.int .u8 b.toNat]] := rfl
theorem byteC_all (l : List UInt8) : ∀ r ∈ bytesV l, byteC r = true := fun r hr => by
  obtain ⟨b, _, rfl⟩ := List.mem_map.1 hr
  have := b.toNat_lt
  simp [byteC]
  omega
theorem byteV_all (l : List UInt8) : (bytesV l).map byteV = l := by
  unfold bytesV
  rw [List.map_map]
  conv => rhs; rw [← List.map_id l]
  refine List.map_congr_left fun b _ => ?_
  simp [byteV]

/-- The digits of a number that is not 0, the last one first. -/
def revDig (u : Nat) : List UInt8 := if h : u = 0 then [] else UInt8.ofNat (48 + u % 10) :: revDig (u / 10)
termination_by u
decreasing_by omega
theorem revDig_zero : revDig 0 = [] := by rw [revDig, dif_pos rfl]
theorem revDig_pos {u : Nat} (h : u ≠ 0) : revDig u = UInt8.ofNat (48 + u % 10) :: revDig (u / 10) := by rw [revDig, dif_neg h]
theorem decDigits_rev : ∀ {u : Nat}, u ≠ 0 → Lib.decDigits u = (revDig u).reverse
  | u, h => by
    rw [Lib.decDigits, revDig_pos h]
    by_cases h1 : u < 10
    · rw [dif_pos h1]
      have e : u / 10 = 0 := by omega
      rw [e, revDig_zero, Nat.mod_eq_of_lt h1]
      rfl
    · rw [dif_neg h1, decDigits_rev (u := u / 10) (by omega), List.reverse_cons]
termination_by u => u
decreasing_by omega
theorem revDig_len (u : Nat) : (revDig u).length ≤ u := by
  induction u using Nat.strongRecOn with
  | _ u ih =>
    by_cases h : u = 0
    · subst h; rw [revDig_zero]; exact Nat.le_refl _
    · rw [revDig_pos h, List.length_cons]
      have := ih (u / 10) (by omega)
      omega
theorem revDig_len20 : ∀ (k u : Nat), u < 10 ^ k → (revDig u).length ≤ k
  | 0, u, h => by
    have : u = 0 := by simpa using h
    subst this; rw [revDig_zero]; exact Nat.le_refl _
  | k + 1, u, h => by
    by_cases h0 : u = 0
    · subst h0; rw [revDig_zero]; exact Nat.zero_le _
    · rw [revDig_pos h0, List.length_cons]
      have := revDig_len20 k (u / 10) (by rw [Nat.pow_succ] at h; omega)
      omega

theorem revDig_zero_abs : revDig (0 : Int).natAbs = [] := revDig_zero
theorem itoa_zero : Lib.itoa 0 = [48] := by simp [Lib.itoa, Lib.decDigits_one]
theorem itoa_pos {n : Int} (h : 0 < n) : Lib.itoa n = (revDig n.natAbs).reverse := by
  unfold Lib.itoa
  rw [if_neg (by omega), decDigits_rev (by omega)]
  congr 2
  omega
theorem itoa_neg {n : Int} (h : n < 0) : Lib.itoa n = 45 :: (revDig n.natAbs).reverse := by
  unfold Lib.itoa
  rw [if_pos h, decDigits_rev (by omega)]

theorem tq10 (x : Int) : (x.tdiv 10).natAbs = x.natAbs / 10 ∧ (x.tmod 10).natAbs = x.natAbs % 10 ∧ (0 ≤ x → 0 ≤ x.tdiv 10 ∧ 0 ≤ x.tmod 10) ∧ (x ≤ 0 → x.tdiv 10 ≤ 0 ∧ x.tmod 10 ≤ 0) := by
  rcases Int.le_total 0 x with h | h
  · rw [Int.tdiv_eq_ediv_of_nonneg h, Int.tmod_eq_emod_of_nonneg h]
    omega
  · obtain ⟨y, rfl⟩ : ∃ y, x = -y := ⟨-x, by omega⟩
    have hy : 0 ≤ y := by omega
    rw [Int.neg_tdiv, Int.neg_tmod, Int.tdiv_eq_ediv_of_nonneg hy, Int.tmod_eq_emod_of_nonneg hy]
    omega
theorem dig8 {d : Nat} (h : d < 10) : IntKind.u8.wrap (IntKind.i64.wrap (48 + (d : Int))) = ((UInt8.ofNat (48 + d)).toNat : Int) := by
  rw [w64 (by omega) (by omega), w8 (by omega) (by omega)]
  have : (UInt8.ofNat (48 + d)).toNat = 48 + d := by simp; omega
  rw [this]
  omega

end Go.Proofs.YtoeklljhjhidbaaGreatDoor
