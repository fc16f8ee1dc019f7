/- Nearest quotients, roots, sines: plain law and contracts. No condition. -/
import Derived.Test.YtnfjkfjbhdlphaaGreatTI
namespace Go.Proofs.YtnfjkfjbhdlphaaGreat
open Go Go.Ab
set_option maxRecDepth 100000

/-- The nearest quotient, halves away from 0. -/
def nearV (a b : Int) : Int := if a < 0 then -((b - 2 * a).tdiv (2 * b)) else (2 * a + b).tdiv (2 * b)
theorem half_div {q r b : Int} (h0 : 0 ≤ r) (h1 : r < b) : (2 * (b * q + r) + b) / (2 * b) = if b - r ≤ r then q + 1 else q := by
  have e : 2 * (b * q + r) + b = (2 * r + b) + 2 * b * q := by
    have : 2 * b * q = 2 * (b * q) := Int.mul_assoc ..
    rw [this]
    omega
  rw [e, Int.add_mul_ediv_left _ _ (by omega)]
  have k : (2 * r + b) / (2 * b) = if b - r ≤ r then 1 else 0 := by
    split
    · refine Int.le_antisymm ?_ ?_
      · exact Int.lt_add_one_iff.1 (Int.ediv_lt_of_lt_mul (by omega) (by omega))
      · exact (Int.le_ediv_iff_mul_le (by omega)).2 (by omega)
    · exact Int.ediv_eq_zero_of_lt (by omega) (by omega)
  rw [k]
  split <;> omega
/-- What the program answers. -/
theorem near_pos {a b : Int} (ha : 0 ≤ a) (hb : 0 < b) : nearV a b = if b - a.tmod b ≤ a.tmod b then a.tdiv b + 1 else a.tdiv b := by
  unfold nearV
  rw [if_neg (by omega), Int.tdiv_eq_ediv_of_nonneg (by omega), Int.tmod_eq_emod_of_nonneg ha, Int.tdiv_eq_ediv_of_nonneg ha]
  have h := half_div (q := a / b) (r := a % b) (b := b) (Int.emod_nonneg _ (by omega)) (Int.emod_lt_of_pos _ hb)
  rw [Int.mul_ediv_add_emod] at h
  exact h
theorem near_neg {a b : Int} (ha : a < 0) (hb : 0 < b) : nearV a b = if b - (-(a.tmod b)) ≤ -(a.tmod b) then a.tdiv b - 1 else a.tdiv b := by
  have h := near_pos (a := -a) (b := b) (by omega) hb
  have e1 : (-a).tmod b = -(a.tmod b) := Int.neg_tmod ..
  have e2 : (-a).tdiv b = -(a.tdiv b) := Int.neg_tdiv ..
  rw [e1, e2] at h
  have e3 : nearV a b = -(nearV (-a) b) := by
    unfold nearV
    rw [if_pos ha, if_neg (by omega), show 2 * -a + b = b - 2 * a by omega]
  rw [e3, h]
  split <;> omega
theorem near_le {a b M : Int} (hb : 0 < b) (hM : 0 ≤ M) (h1 : -(b * M) ≤ a) (h2 : a ≤ b * M) : -M ≤ nearV a b ∧ nearV a b ≤ M := by
  have key : ∀ c : Int, 0 ≤ c → c ≤ b * M → 0 ≤ (2 * c + b) / (2 * b) ∧ (2 * c + b) / (2 * b) ≤ M := fun c h3 h4 => by
    refine ⟨Int.ediv_nonneg (by omega) (by omega), Int.lt_add_one_iff.1 (Int.ediv_lt_of_lt_mul (by omega) ?_)⟩
    have e : (M + 1) * (2 * b) = 2 * (b * M) + 2 * b := by
      rw [Int.add_mul, Int.one_mul, Int.mul_comm M (2 * b), Int.mul_assoc]
    rw [e]
    omega
  unfold nearV
  split
  · have := key (-a) (by omega) (by omega)
    rw [Int.tdiv_eq_ediv_of_nonneg (by omega)]
    rw [show 2 * -a + b = b - 2 * a by omega] at this
    omega
  · have := key a (by omega) (by omega)
    rw [Int.tdiv_eq_ediv_of_nonneg (by omega)]
    omega
theorem near_nonneg {a b : Int} (hb : 0 < b) (ha : 0 ≤ a) : 0 ≤ nearV a b := by
  unfold nearV
  rw [if_neg (by omega), Int.tdiv_eq_ediv_of_nonneg (by omega)]
  exact Int.ediv_nonneg (by omega) (by omega)

/-- The root, rounded down. -/
def rootN : Nat → Nat
  | 0 => 0
  | n + 1 => if (rootN n + 1) * (rootN n + 1) ≤ n + 1 then rootN n + 1 else rootN n
theorem rootN_spec : ∀ n : Nat, rootN n * rootN n ≤ n ∧ n < (rootN n + 1) * (rootN n + 1)
  | 0 => by simp [rootN]
  | n + 1 => by
    have ih := rootN_spec n
    unfold rootN
    split
    · rename_i h
      refine ⟨h, ?_⟩
      have e : (rootN n + 1 + 1) * (rootN n + 1 + 1) = (rootN n + 1) * (rootN n + 1) + (2 * (rootN n + 1) + 1) := by
        simp only [Nat.add_mul, Nat.mul_add]
        omega
      rw [e]
      omega
    · omega
def rootV (n : Int) : Int := rootN n.toNat
theorem rootV_of {n r : Int} (hn : 0 ≤ n) (h0 : 0 ≤ r) (h1 : r * r ≤ n) (h2 : n < (r + 1) * (r + 1)) : rootV n = r := by
  obtain ⟨N, rfl⟩ : ∃ N : Nat, n = N := ⟨n.toNat, by omega⟩
  obtain ⟨R, rfl⟩ : ∃ R : Nat, r = R := ⟨r.toNat, by omega⟩
  have s := rootN_spec N
  have h1' : R * R ≤ N := by exact_mod_cast h1
  have h2' : N < (R + 1) * (R + 1) := by exact_mod_cast h2
  unfold rootV
  rw [Int.toNat_natCast]
  have a1 : ¬ rootN N < R := fun h => by
    have := Nat.mul_le_mul (show rootN N + 1 ≤ R by omega) (show rootN N + 1 ≤ R by omega)
    omega
  have a2 : ¬ R < rootN N := fun h => by
    have := Nat.mul_le_mul (show R + 1 ≤ rootN N by omega) (show R + 1 ≤ rootN N by omega)
    omega
  have : rootN N = R := by omega
  rw [this]
theorem rootV_le {n M : Int} (hM : 0 ≤ M) (h : n < (M + 1) * (M + 1)) (hn : 0 ≤ n) : 0 ≤ rootV n ∧ rootV n ≤ M := by
  obtain ⟨N, rfl⟩ : ∃ N : Nat, n = N := ⟨n.toNat, by omega⟩
  obtain ⟨R, rfl⟩ : ∃ R : Nat, M = R := ⟨M.toNat, by omega⟩
  have s := rootN_spec N
  have h' : N < (R + 1) * (R + 1) := by exact_mod_cast h
  unfold rootV
  rw [Int.toNat_natCast]
  have : ¬ R < rootN N := fun h => by
    have := Nat.mul_le_mul (show R + 1 ≤ rootN N by omega) (show R + 1 ≤ rootN N by omega)
    omega
  omega
/-- One bit more of a root. -/
theorem root_bit {n r d : Int} (hr : 0 ≤ r) (hd : 0 < d) (hn : 0 ≤ n) : r + d ≤ n.tdiv (r + d) ↔ (r + d) * (r + d) ≤ n := by
  rw [Int.tdiv_eq_ediv_of_nonneg hn, Int.le_ediv_iff_mul_le (by omega)]

def sineAt (d : Nat) : Int := sineL.getD d 0
/-- The sine of an angle. -/
def turnV (x : Int) : Int := (x.tmod 360 + 360).tmod 360
def sinV (x : Int) : Int := if turnV x ≤ 90 then sineAt (turnV x).toNat else if turnV x ≤ 180 then sineAt (180 - turnV x).toNat else if turnV x ≤ 270 then -sineAt (turnV x - 180).toNat else -sineAt (360 - turnV x).toNat
def cosV (x : Int) : Int := sinV (turnV x + 90)
theorem turnV_le (x : Int) : 0 ≤ turnV x ∧ turnV x < 360 := by
  have h1 := Int.tmod_lt_of_pos x (b := 360) (by decide)
  have h2 : -360 < x.tmod 360 := by
    have := Int.tmod_lt_of_pos (-x) (b := 360) (by decide)
    rw [Int.neg_tmod] at this
    omega
  unfold turnV
  rw [Int.tmod_eq_emod_of_nonneg (by omega)]
  omega
theorem sineAt_le (d : Nat) : 0 ≤ sineAt d ∧ sineAt d ≤ 1000 := by
  by_cases h : d < 91
  · have : ∀ d : Fin 91, 0 ≤ sineAt d.val ∧ sineAt d.val ≤ 1000 := by decide
    exact this ⟨d, h⟩
  · unfold sineAt
    rw [List.getD_eq_getElem?_getD, List.getElem?_eq_none (by simp [sineL]; omega)]
    simp
theorem sinV_le (x : Int) : -1000 ≤ sinV x ∧ sinV x ≤ 1000 := by
  unfold sinV
  split
  · have := sineAt_le (turnV x).toNat; omega
  · split
    · have := sineAt_le (180 - turnV x).toNat; omega
    · split
      · have := sineAt_le (turnV x - 180).toNat; omega
      · have := sineAt_le (360 - turnV x).toNat; omega
theorem mul_le_abs {a b A B : Int} (hA : 0 ≤ A) (hB : 0 ≤ B) (h1 : -A ≤ a) (h2 : a ≤ A) (h3 : -B ≤ b) (h4 : b ≤ B) : -(A * B) ≤ a * b ∧ a * b ≤ A * B := by
  have key : a.natAbs * b.natAbs ≤ A.natAbs * B.natAbs := Nat.mul_le_mul (by omega) (by omega)
  rw [← Int.natAbs_mul, ← Int.natAbs_mul] at key
  have hp := Int.mul_nonneg hA hB
  generalize a * b = x at *
  generalize A * B = y at *
  omega

/-! ### Contracts -/
def Mid (n : Int) : Prop := -100000000000000000 ≤ n ∧ n ≤ 100000000000000000
theorem tdiv_le (a : Int) {b : Int} (_hb : 0 < b) : -(a.natAbs : Int) ≤ a.tdiv b ∧ a.tdiv b ≤ a.natAbs := by
  have := Int.natAbs_tdiv_le_natAbs a b
  omega
theorem tmod_le (a : Int) {b : Int} (hb : 0 < b) : -b < a.tmod b ∧ a.tmod b < b := by
  have h1 := Int.tmod_lt_of_pos a hb
  have h2 := Int.tmod_lt_of_pos (-a) hb
  rw [Int.neg_tmod] at h2
  omega
/-- The bit that is tried in round i. -/
def bitN (i : Nat) : Nat := 2147483648 / 2 ^ i
theorem bitN_succ (i : Nat) : bitN i / 2 = bitN (i + 1) := by
  unfold bitN
  rw [Nat.div_div_eq_div_mul, Nat.pow_succ]
theorem bitN_pos {i : Nat} (h : i < 32) : bitN i = 2 ^ (31 - i) := by
  have : ∀ i : Fin 32, bitN i.val = 2 ^ (31 - i.val) := by decide
  exact this ⟨i, h⟩
theorem sineT_get {d : Nat} (h : d < 91) : sineT[d]? = some (.int .i64 (sineAt d)) := by
  have hl : d < sineL.length := h
  unfold sineT sineAt
  rw [List.getElem?_map, List.getElem?_eq_getElem hl, List.getD_eq_getElem?_getD, List.getElem?_eq_getElem hl]
  rfl
theorem sineR_get (d : Nat) (h : d < (intRows sineL).length) : (intRows sineL)[d] = [.int .i64 (sineAt d)] := by
  have hl : d < sineL.length := h
  simp only [intRows, sineAt, List.getElem_map, List.getD_eq_getElem?_getD, List.getElem?_eq_getElem hl, Option.getD_some]
end Go.Proofs.YtnfjkfjbhdlphaaGreat
