/- Nearest quotients, roots, sines: plain law and contracts. No condition. Hung bells and their swings: plain law and contracts. No condition. -/
import Derived.Test.YtcjpfjklhhclmaaGreatDoorTI
import Derived.Test.YtcjpfjklhhclmaaGreatDoorCe
import Derived.Test.YtcjpfjklhhclmaaGreatDoorCk
import Derived.Test.YtcjpfjklhhclmaaGreatDoorTFlat
namespace Go.Proofs.YtcjpfjklhhclmaaGreatDoor
open Go Go.Ab
set_option maxRecDepth 100000

/-- The nearest quotient, halves away from 0. -/
def nearV (a b : Int) : Int := if a < 0 then -((b - 2 * a).tdiv (2 * b)) else (2 * a + b).tdiv (2 * b)
theorem half_div {q r b : Int} (h0 : 0 ≤ r) (h1 : r < b) : (2 * (b * q + r) + b) / (2 * b) = if b - r ≤ r then q + 1 else q := by
  have e : 2 * (b * q + r) + b = (2 * r + b) + 2 * b * q := by
    have : 2 * b * q = 2 * (b * q) := Int.mul_assoc ..
    rw [this]
    omega
  rw [e, Int.add_mul_ediv_left _ _ (by omega)]
  have k : (2 * r + b) / (2 * b) = if b - r ≤ r then 1 else 0 := by
    split
    · refine Int.le_antisymm ?_ ?_
      · exact Int.lt_add_one_iff.1 (Int.ediv_lt_of_lt_mul (by omega) (by omega))
      · exact (Int.le_ediv_iff_mul_le (by omega)).2 (by omega)
    · exact Int.ediv_eq_zero_of_lt (by omega) (by omega)
  rw [k]
  split <;> omega
/-- What the program answers. -/
theorem near_pos {a b : Int} (ha : 0 ≤ a) (hb : 0 < b) : nearV a b = if b - a.tmod b ≤ a.tmod b then a.tdiv b + 1 else a.tdiv b := by
  unfold nearV
  rw [if_neg (by omega), Int.tdiv_eq_ediv_of_nonneg (by omega), Int.tmod_eq_emod_of_nonneg ha, Int.tdiv_eq_ediv_of_nonneg ha]
  have h := half_div (q := a / b) (r := a % b) (b := b) (Int.emod_nonneg _ (by omega)) (Int.emod_lt_of_pos _ hb)
  rw [Int.mul_ediv_add_emod] at h
  exact h
theorem near_neg {a b : Int} (ha : a < 0) (hb : 0 < b) : nearV a b = if b - (-(a.tmod b)) ≤ -(a.tmod b) then a.tdiv b - 1 else a.tdiv b := by
  have h := near_pos (a := -a) (b := b) (by omega) hb
  have e1 : (-a).tmod b = -(a.tmod b) := Int.neg_tmod ..
  have e2 : (-a).tdiv b = -(a.tdiv b) := Int.neg_tdiv ..
  rw [e1, e2] at h
  have e3 : nearV a b = -(nearV (-a) b) := by
    unfold nearV
    rw [if_pos ha, if_neg (by omega), show 2 * -a + b = b - 2 * a by omega]
  rw [e3, h]
  split <;> omega
theorem near_le {a b M : Int} (hb : 0 < b) (hM : 0 ≤ M) (h1 : -(b * M) ≤ a) (h2 : a ≤ b * M) : -M ≤ nearV a b ∧ nearV a b ≤ M := by
  have key : ∀ c : Int, 0 ≤ c → c ≤ b * M → 0 ≤ (2 * c + b) / (2 * b) ∧ (2 * c + b) / (2 * b) ≤ M := fun c h3 h4 => by
    refine ⟨Int.ediv_nonneg (by omega) (by omega), Int.lt_add_one_iff.1 (Int.ediv_lt_of_lt_mul (by omega) ?_)⟩
    have e : (M + 1) * (2 * b) = 2 * (b * M) + 2 * b := by
      rw [Int.add_mul, Int.one_mul, Int.mul_comm M (2 * b), Int.mul_assoc]
    rw [e]
    omega
  unfold nearV
  split
  · have := key (-a) (by omega) (by omega)
    rw [Int.tdiv_eq_ediv_of_nonneg (by omega)]
    rw [show 2 * -a + b = b - 2 * a by omega] at this
    omega
  · have := key a (by omega) (by omega)
    rw [Int.tdiv_eq_ediv_of_nonneg (by omega)]
    omega
theorem near_nonneg {a b : Int} (hb : 0 < b) (ha : 0 ≤ a) : 0 ≤ nearV a b := by
  unfold nearV
  rw [if_neg (by omega), Int.tdiv_eq_ediv_of_nonneg (by omega)]
  exact Int.ediv_nonneg (by omega) (by omega)

/-- The root, rounded down. -/
def rootN : Nat → Nat
  | 0 => 0
  | n + 1 => if (rootN n + 1) * (rootN n + 1) ≤ n + 1 then rootN n + 1 else rootN n
theorem rootN_spec : ∀ n : Nat, rootN n * rootN n ≤ n ∧ n < (rootN n + 1) * (rootN n + 1)
  | 0 => by simp [rootN]
  | n + 1 => by
    have ih := rootN_spec n
    unfold rootN
    split
    · rename_i h
      refine ⟨h, ?_⟩
      have e : (rootN n + 1 + 1) * (rootN n + 1 + 1) = (rootN n + 1) * (rootN n + 1) + (2 * (rootN n + 1) + 1) := by
        simp only [Nat.add_mul, Nat.mul_add]
        omega
      rw [e]
      omega
    · omega
def rootV (n : Int) : Int := rootN n.toNat
theorem rootV_of {n r : Int} (hn : 0 ≤ n) (h0 : 0 ≤ r) (h1 : r * r ≤ n) (h2 : n < (r + 1) * (r + 1)) : rootV n = r := by
  obtain ⟨N, rfl⟩ : ∃ N : Nat, n = N := ⟨n.toNat, by omega⟩
  obtain ⟨R, rfl⟩ : ∃ R : Nat, r = R := ⟨r.toNat, by omega⟩
  have s := rootN_spec N
  have h1' : R * R ≤ N := by exact_mod_cast h1
  have h2' : N < (R + 1) * (R + 1) := by exact_mod_cast h2
  unfold rootV
  rw [Int.toNat_natCast]
  have a1 : ¬ rootN N < R := fun h => by
    have := Nat.mul_le_mul (show rootN N + 1 ≤ R by omega) (show rootN N + 1 ≤ R by omega)
    omega
  have a2 : ¬ R < rootN N := fun h => by
    have := Nat.mul_le_mul (show R + 1 ≤ rootN N by omega) (show R + 1 ≤ rootN N by omega)
    omega
  have : rootN N = R := by omega
  rw [this]
theorem rootV_le {n M : Int} (hM : 0 ≤ M) (h : n < (M + 1) * (M + 1)) (hn : 0 ≤ n) : 0 ≤ rootV n ∧ rootV n ≤ M := by
  obtain ⟨N, rfl⟩ : ∃ N : Nat, n = N := ⟨n.toNat, by omega⟩
  obtain ⟨R, rfl⟩ : ∃ R : Nat, M = R := ⟨M.toNat, by omega⟩
  have s := rootN_spec N
  have h' : N < (R + 1) * (R + 1) := by exact_mod_cast h
  unfold rootV
  rw [Int.toNat_natCast]
  have : ¬ R < rootN N := fun h => by
    have := Nat.mul_le_mul (show R + 1 ≤ rootN N by omega) (show R + 1 ≤ rootN N by omega)
    omega
  omega
/-- One bit more of a root. -/
theorem root_bit {n r d : Int} (hr : 0 ≤ r) (hd : 0 < d) (hn : 0 ≤ n) : r + d ≤ n.tdiv (r + d) ↔ (r + d) * (r + d) ≤ n := by
  rw [Int.tdiv_eq_ediv_of_nonneg hn, Int.le_ediv_iff_mul_le (by omega)]

def sineAt (d : Nat) : Int := sineL.getD d 0
/-- The sine of an angle. -/
def turnV (x : Int) : Int := (x.tmod 360 + 360).tmod 360
def sinV (x : Int) : Int := if turnV x ≤ 90 then sineAt (turnV x).toNat else if turnV x ≤ 180 then sineAt (180 - turnV x).toNat else if turnV x ≤ 270 then -sineAt (turnV x - 180).toNat else -sineAt (360 - turnV x).toNat
def cosV (x : Int) : Int := sinV (turnV x + 90)
theorem turnV_le (x : Int) : 0 ≤ turnV x ∧ turnV x < 360 := by
  have h1 := Int.tmod_lt_of_pos x (b := 360) (by decide)
  have h2 : -360 < x.tmod 360 := by
    have := Int.tmod_lt_of_pos (-x) (b := 360) (by decide)
    rw [Int.neg_tmod] at this
    omega
  unfold turnV
  rw [Int.tmod_eq_emod_of_nonneg (by omega)]
  omega
theorem sineAt_le (d : Nat) : 0 ≤ sineAt d ∧ sineAt d ≤ 1000 := by
  by_cases h : d < 91
  · have : ∀ d : Fin 91, 0 ≤ sineAt d.val ∧ sineAt d.val ≤ 1000 := by decide
    exact this ⟨d, h⟩
  · unfold sineAt
    rw [List.getD_eq_getElem?_getD, List.getElem?_eq_none (by simp [sineL]; omega)]
    simp
theorem sinV_le (x : Int) : -1000 ≤ sinV x ∧ sinV x ≤ 1000 := by
  unfold sinV
  split
  · have := sineAt_le (turnV x).toNat; omega
  · split
    · have := sineAt_le (180 - turnV x).toNat; omega
    · split
      · have := sineAt_le (turnV x - 180).toNat; omega
      · have := sineAt_le (360 - turnV x).toNat; omega
theorem mul_le_abs {a b A B : Int} (hA : 0 ≤ A) (hB : 0 ≤ B) (h1 : -A ≤ a) (h2 : a ≤ A) (h3 : -B ≤ b) (h4 : b ≤ B) : -(A * B) ≤ a * b ∧ a * b ≤ A * B := by
  have key : a.natAbs * b.natAbs ≤ A.natAbs * B.natAbs := Nat.mul_le_mul (by omega) (by omega)
  rw [← Int.natAbs_mul, ← Int.natAbs_mul] at key
  have hp := Int.mul_nonneg hA hB
  generalize a * b = x at *
  generalize A * B = y at *
  omega

/-! ### Contracts -/
def Mid (n : Int) : Prop := -100000000000000000 ≤ n ∧ n ≤ 100000000000000000
def Wide (n : Int) : Prop := -1000000000000000000 ≤ n ∧ n ≤ 1000000000000000000
theorem Mid.wide {n : Int} (h : Mid n) : Wide n := ⟨by have := h.1; omega, by have := h.2; omega⟩
theorem c_abs (n : Int) (h : Wide n) : HFn Tryz.prog 222 [.int .i64 n] [] (.int .i64 n.natAbs) [] := by
  obtain ⟨h1, h2⟩ := h
  refine hfn_intro hm Tryz.func222 (by kernel_rfl) rfl (by kernel_rfl) rfl ret0_ok ?_
  simp
  refine ⟨fun g => ?_, fun g => ?_⟩
  · rw [w64 (by omega) (by omega)]
    omega
  · omega
theorem tdiv_le (a : Int) {b : Int} (_hb : 0 < b) : -(a.natAbs : Int) ≤ a.tdiv b ∧ a.tdiv b ≤ a.natAbs := by
  have := Int.natAbs_tdiv_le_natAbs a b
  omega
theorem tmod_le (a : Int) {b : Int} (hb : 0 < b) : -b < a.tmod b ∧ a.tmod b < b := by
  have h1 := Int.tmod_lt_of_pos a hb
  have h2 := Int.tmod_lt_of_pos (-a) hb
  rw [Int.neg_tmod] at h2
  omega
theorem c_nearestW (a b : Int) (ha : Wide a) (hb : 0 < b) (hb2 : b ≤ 1000000000000000000) : HFn Tryz.prog 134 [.int .i64 a, .int .i64 b] [] (.int .i64 (nearV a b)) [] := by
  obtain ⟨h1, h2⟩ := ha
  have d1 := tdiv_le a hb
  have d2 := tmod_le a hb
  have w1 : IntKind.i64.wrap (a.tdiv b) = a.tdiv b := w64 (by omega) (by omega)
  have kb := c_abs b ⟨by omega, hb2⟩
  rw [show (b.natAbs : Int) = b by omega] at kb
  have kr := c_abs (a.tmod b) ⟨by omega, by omega⟩
  have w3 : IntKind.i64.wrap (a.tdiv b - 1) = a.tdiv b - 1 := w64 (by omega) (by omega)
  have w4 : IntKind.i64.wrap (a.tdiv b + 1) = a.tdiv b + 1 := w64 (by omega) (by omega)
  refine hfn_intro hm Tryz.func134 (by kernel_rfl) rfl (by kernel_rfl) rfl ret0_ok ?_
  by_cases hs : a < 0
  · have hv := near_neg hs hb
    have hm0 : a.tmod b ≤ 0 := by
      have := Int.tmod_nonneg (a := -a) b (by omega)
      rw [Int.neg_tmod] at this
      omega
    obtain ⟨r, hr⟩ : ∃ r, r = -(a.tmod b) := ⟨_, rfl⟩
    rw [show ((a.tmod b).natAbs : Int) = r by omega] at kr
    rw [← hr] at hv
    have w2 : IntKind.i64.wrap (b - r) = b - r := w64 (by omega) (by omega)
    simp [show ¬ b = 0 by omega, w1]
    refine CallZ.use0 kr rfl rfl ?_
    simp
    refine CallZ.use0 kb rfl rfl ?_
    simp [w2, w3, hs, show ¬ b < 0 by omega]
    rw [hv]
    refine ⟨fun g => ?_, fun g => ?_⟩
    · rw [if_pos (by omega)]
    · rw [if_neg (by omega)]
  · have hv := near_pos (show 0 ≤ a by omega) hb
    have hm0 : 0 ≤ a.tmod b := Int.tmod_nonneg b (by omega)
    obtain ⟨r, hr⟩ : ∃ r, r = a.tmod b := ⟨_, rfl⟩
    rw [show ((a.tmod b).natAbs : Int) = r by omega] at kr
    rw [← hr] at hv
    have w2 : IntKind.i64.wrap (b - r) = b - r := w64 (by omega) (by omega)
    simp [show ¬ b = 0 by omega, w1]
    refine CallZ.use0 kr rfl rfl ?_
    simp
    refine CallZ.use0 kb rfl rfl ?_
    simp [w2, w4, hs, show ¬ b < 0 by omega]
    rw [hv]
    refine ⟨fun g => ?_, fun g => ?_⟩
    · rw [if_pos (by omega)]
    · rw [if_neg (by omega)]
theorem c_nearest (a b : Int) (ha : Mid a) (hb : 0 < b) (hb2 : b ≤ 100000000000000000) : HFn Tryz.prog 134 [.int .i64 a, .int .i64 b] [] (.int .i64 (nearV a b)) [] := c_nearestW a b ha.wide hb (by omega)
theorem c_l01DivW (a b : Int) (ha : Wide a) (hb : 0 < b) (hb2 : b ≤ 1000000000000000000) : HFn Tryz.prog 231 [.int .i64 a, .int .i64 b] [] (.int .i64 (nearV a b)) [] := by
  obtain ⟨h1, h2⟩ := ha
  refine hfn_intro hm Tryz.func231 (by kernel_rfl) rfl (by kernel_rfl) rfl ret0_ok ?_
  have w1 : IntKind.i64.wrap (2 * a) = 2 * a := w64 (by omega) (by omega)
  have w2 : IntKind.i64.wrap (b - 2 * a) = b - 2 * a := w64 (by omega) (by omega)
  have w3 : IntKind.i64.wrap (2 * b) = 2 * b := w64 (by omega) (by omega)
  have w4 : IntKind.i64.wrap (2 * a + b) = 2 * a + b := w64 (by omega) (by omega)
  have e1 := tdiv_le (b - 2 * a) (b := 2 * b) (by omega)
  have e2 := tdiv_le (2 * a + b) (b := 2 * b) (by omega)
  have w5 : IntKind.i64.wrap ((b - 2 * a).tdiv (2 * b)) = (b - 2 * a).tdiv (2 * b) := w64 (by omega) (by omega)
  have w6 : IntKind.i64.wrap (-((b - 2 * a).tdiv (2 * b))) = -((b - 2 * a).tdiv (2 * b)) := w64 (by omega) (by omega)
  have w7 : IntKind.i64.wrap ((2 * a + b).tdiv (2 * b)) = (2 * a + b).tdiv (2 * b) := w64 (by omega) (by omega)
  have hb0 : ¬ b < 0 := by omega
  have hbz : ¬ b = 0 := by omega
  by_cases hs : a < 0
  · simp [hb0, hbz, hs, w1, w2, w3, w5, w6, nearV]
  · simp [hb0, hbz, hs, w1, w3, w4, w7, nearV]

theorem c_l01Div (a b : Int) (ha : Mid a) (hb : 0 < b) (hb2 : b ≤ 100000000000000000) : HFn Tryz.prog 231 [.int .i64 a, .int .i64 b] [] (.int .i64 (nearV a b)) [] := c_l01DivW a b ha.wide hb (by omega)

/-- The bit that is tried in round i. -/
def bitN (i : Nat) : Nat := 2147483648 / 2 ^ i
theorem bitN_succ (i : Nat) : bitN i / 2 = bitN (i + 1) := by
  unfold bitN
  rw [Nat.div_div_eq_div_mul, Nat.pow_succ]
theorem bitN_pos {i : Nat} (h : i < 32) : bitN i = 2 ^ (31 - i) := by
  have : ∀ i : Fin 32, bitN i.val = 2 ^ (31 - i.val) := by decide
  exact this ⟨i, h⟩
theorem c_RootOf (n : Int) (hn : Mid n) (h0 : 0 ≤ n) : HFn Tryz.prog 223 [.int .i64 n] [] (.int .i64 (rootV n)) [] := by
  obtain ⟨_, h2⟩ := hn
  refine hfn_intro hm Tryz.func223 (by kernel_rfl) rfl (by kernel_rfl) rfl ret0_ok ?_
  simp
  refine ⟨fun g => ?_, fun g => ?_⟩
  · have : n = 0 := by omega
    subst this
    rfl
  · refine loop_uptoG hm 32 (fun i (r : Int) => ⟨[(0, .int .i64 n), (3, .int .i64 r), (4, .int .i64 (bitN i))], []⟩) (fun i r => 0 ≤ r ∧ r ≤ 4294967296 - (2 : Int) ^ (32 - i) ∧ r * r ≤ n ∧ n < (r + (2 : Int) ^ (32 - i)) * (r + (2 : Int) ^ (32 - i))) (by kernel_rfl) ⟨0, ?_, ?_⟩ (fun i r hi hI => ?_) (fun r hI => ?_)
    · refine ⟨by omega, by decide, by omega, ?_⟩
      have : ((0 : Int) + 2 ^ (32 - 0)) * (0 + 2 ^ (32 - 0)) = 18446744073709551616 := by decide
      rw [this]
      omega
    · exact Wk.weak (ρ := []) (φ := []) (by simp [bitN])
    · obtain ⟨r0, r1, r2, r3⟩ := hI
      have hb := bitN_pos hi
      have hs := bitN_succ i
      have hd : ((2 : Int) ^ (32 - i)) = 2 * (bitN i : Int) := by
        rw [hb, show 32 - i = (31 - i) + 1 by omega, Int.pow_succ]
        push_cast
        omega
      have hd2 : ((2 : Int) ^ (31 - i)) = (bitN i : Int) := by
        rw [hb]
        push_cast
        rfl
      have hpos : 0 < bitN i := by rw [hb]; exact Nat.pow_pos (by decide)
      rw [hd] at r1 r3
      have hsh : (bitN i : Int).fdiv (2 ^ min 1 IntKind.i64.bits) = (bitN (i + 1) : Int) := by
        rw [show (2 : Int) ^ min 1 IntKind.i64.bits = 2 from rfl, Int.fdiv_eq_ediv_of_nonneg _ (by omega)]
        omega
      have w1 : IntKind.i64.wrap (r + (bitN i : Int)) = r + (bitN i : Int) := w64 (by omega) (by omega)
      have w2 : IntKind.i64.wrap (bitN (i + 1) : Int) = (bitN (i + 1) : Int) := w64 (by omega) (by omega)
      have hbit := root_bit (n := n) (r := r) (d := (bitN i : Int)) r0 (by omega) h0
      have d1 := tdiv_le n (b := r + (bitN i : Int)) (by omega)
      have w3 : IntKind.i64.wrap (n.tdiv (r + (bitN i : Int))) = n.tdiv (r + (bitN i : Int)) := w64 (by omega) (by omega)
      simp [w1, w3, hsh, hpos, show ¬ r + (bitN i : Int) = 0 by omega]
      rw [hd2]
      refine ⟨fun g => ⟨r + (bitN i : Int), ?_, Wk.weak (ρ := []) (φ := []) ?_⟩, fun g => ⟨r, ?_, Wk.weak (ρ := []) (φ := []) ?_⟩⟩
      · refine ⟨by omega, by omega, hbit.1 g, ?_⟩
        rw [show r + (bitN i : Int) + (bitN i : Int) = r + 2 * (bitN i : Int) by omega]
        exact r3
      · simp
      · refine ⟨r0, by omega, r2, ?_⟩
        exact Int.lt_of_not_ge fun h => by
          have := hbit.2 h
          omega
      · simp
    · obtain ⟨r0, r1, r2, r3⟩ := hI
      have hz : bitN 32 = 0 := by decide
      simp [hz]
      exact (rootV_of h0 r0 r2 (by simpa using r3)).symm
theorem c_l01Root (n : Int) (hn : Mid n) (h0 : 0 ≤ n) : HFn Tryz.prog 217 [.int .i64 n] [] (.int .i64 (rootV n)) [] := by
  obtain ⟨_, h2⟩ := hn
  refine hfn_intro hm Tryz.func217 (by kernel_rfl) rfl (by kernel_rfl) rfl ret0_ok ?_
  simp
  refine loop_rule hm (ι := {x : Nat × Nat // x.1 ≤ x.2 ∧ x.2 ≤ 3037000499 ∧ ((x.1 : Int) * x.1 ≤ n) ∧ n < ((x.2 : Int) + 1) * ((x.2 : Int) + 1)}) (fun x => ⟨[(0, .int .i64 n), (3, .int .i64 x.1.1), (4, .int .i64 x.1.2)], []⟩) (fun x => x.1.2 - x.1.1) (by kernel_rfl) ⟨(0, 3037000499), ?_⟩ ?_ ?_
  · refine ⟨by omega, by omega, by simpa using h0, ?_⟩
    have : (((3037000499 : Nat) : Int) + 1) * (((3037000499 : Nat) : Int) + 1) = 9223372037000250000 := by decide
    simp only
    rw [this]
    omega
  · exact Wk.weak (ρ := []) (φ := []) (by simp)
  · rintro ⟨⟨lo, hi⟩, i1, i2, i3, i4⟩
    simp only at i1 i2 i3 i4 ⊢
    have w1 : IntKind.i64.wrap ((lo : Int) + hi) = (lo : Int) + hi := w64 (by omega) (by omega)
    have w2 : IntKind.i64.wrap ((lo : Int) + hi + 1) = (lo : Int) + hi + 1 := w64 (by omega) (by omega)
    obtain ⟨md, hmd⟩ : ∃ md : Nat, md = (lo + hi + 1) / 2 := ⟨_, rfl⟩
    have e1 : ((lo : Int) + hi + 1).tdiv 2 = (md : Int) := by
      rw [Int.tdiv_eq_ediv_of_nonneg (by omega)]
      omega
    have w3 : IntKind.i64.wrap (md : Int) = (md : Int) := w64 (by omega) (by omega)
    have hmm : (md : Int) * md ≤ 3037000499 * 3037000499 := Int.mul_le_mul (by omega) (by omega) (by omega) (by omega)
    have hm0 : 0 ≤ (md : Int) * md := Int.mul_nonneg (by omega) (by omega)
    have w4 : IntKind.i64.wrap ((md : Int) * md) = (md : Int) * md := w64 (by omega) (by omega)
    by_cases hlt : lo < hi
    · have w5 : IntKind.i64.wrap ((md : Int) - 1) = ((md - 1 : Nat) : Int) := by rw [w64 (by omega) (by omega)]; omega
      simp [hlt, w1, w2, e1, w3, w4]
      refine ⟨fun g => ⟨md, hi, Wk.weak (ρ := []) (φ := []) ?_, ⟨by omega, by omega, g, i4⟩, by omega⟩, fun g => ⟨lo, md - 1, Wk.weak (ρ := []) (φ := []) ?_, ⟨by omega, by omega, i3, ?_⟩, by omega⟩⟩
      · simp
      · simp [w5]
      · rw [show ((md - 1 : Nat) : Int) + 1 = (md : Int) by omega]
        exact g
    · have : lo = hi := by omega
      subst this
      simp
      exact (rootV_of h0 (by omega) i3 i4).symm

theorem c_turn (x : Int) (hx : Mid x) : HFn Tryz.prog 288 [.int .i64 x] [] (.int .i64 (turnV x)) [] := by
  obtain ⟨h1, h2⟩ := hx
  have hd := tmod_le x (b := 360) (by decide)
  refine hfn_intro hm Tryz.func288 (by kernel_rfl) rfl (by kernel_rfl) rfl ret0_ok ?_
  have w1 : IntKind.i64.wrap (x.tmod 360 + 360) = x.tmod 360 + 360 := w64 (by omega) (by omega)
  simp [w1, turnV]
theorem sineT_get {d : Nat} (h : d < 91) : sineT[d]? = some (.int .i64 (sineAt d)) := by
  have hl : d < sineL.length := h
  unfold sineT sineAt
  rw [List.getElem?_map, List.getElem?_eq_getElem hl, List.getD_eq_getElem?_getD, List.getElem?_eq_getElem hl]
  rfl
theorem c_SineOf (x : Int) (hx : Mid x) : HFn Tryz.prog 225 [.int .i64 x] [] (.int .i64 (sinV x)) [] := by
  have ht := turnV_le x
  have kt := c_turn x hx
  refine hfn_intro hm Tryz.func225 (by kernel_rfl) rfl (by kernel_rfl) rfl ret0_ok ?_
  simp
  refine CallZ.use0 kt rfl rfl ?_
  unfold sinV
  generalize turnV x = y at *
  obtain ⟨d, rfl⟩ : ∃ d : Nat, y = d := ⟨y.toNat, by omega⟩
  have hneg : ∀ k : Nat, IntKind.i64.wrap (-(sineAt k)) = -(sineAt k) := fun k => by
    have := sineAt_le k
    exact w64 (by omega) (by omega)
  by_cases h1 : d ≤ 90
  · have hg := sineT_get (d := d) (by omega)
    simp [show (d : Int) ≤ 90 by omega, show (d : Int) < 91 by omega, hg]
    omega
  by_cases h2 : d ≤ 180
  · have hg := sineT_get (d := 180 - d) (by omega)
    have w1 : IntKind.i64.wrap (180 - (d : Int)) = ((180 - d : Nat) : Int) := by rw [w64 (by omega) (by omega)]; omega
    simp [show ¬ (d : Int) ≤ 90 by omega, show (d : Int) ≤ 180 by omega, w1, show ((180 - d : Nat) : Int) < 91 by omega, show 180 - d ≤ 90 by omega, hg]
  by_cases h3 : d ≤ 270
  · have hg := sineT_get (d := d - 180) (by omega)
    have w1 : IntKind.i64.wrap ((d : Int) - 180) = ((d - 180 : Nat) : Int) := by rw [w64 (by omega) (by omega)]; omega
    have e1 : ((d : Int) - 180).toNat = d - 180 := by omega
    simp [show ¬ (d : Int) ≤ 90 by omega, show ¬ (d : Int) ≤ 180 by omega, show (d : Int) ≤ 270 by omega, w1, show ((d - 180 : Nat) : Int) < 91 by omega, show d - 180 ≤ 90 by omega, hg, hneg, e1]
  · have hg := sineT_get (d := 360 - d) (by omega)
    have w1 : IntKind.i64.wrap (360 - (d : Int)) = ((360 - d : Nat) : Int) := by rw [w64 (by omega) (by omega)]; omega
    simp [show ¬ (d : Int) ≤ 90 by omega, show ¬ (d : Int) ≤ 180 by omega, show ¬ (d : Int) ≤ 270 by omega, w1, show ((360 - d : Nat) : Int) < 91 by omega, show 360 - d ≤ 90 by omega, hg, hneg]
theorem c_CosineOf (x : Int) (hx : Mid x) : HFn Tryz.prog 287 [.int .i64 x] [] (.int .i64 (cosV x)) [] := by
  have ht := turnV_le x
  refine hfn_intro hm Tryz.func287 (by kernel_rfl) rfl (by kernel_rfl) rfl ret0_ok ?_
  simp
  refine CallZ.use0 (c_turn x hx) rfl rfl ?_
  have w1 : IntKind.i64.wrap (turnV x + 90) = turnV x + 90 := w64 (by omega) (by omega)
  simp [w1]
  refine CallZ.use0 (c_SineOf (turnV x + 90) ⟨by omega, by omega⟩) rfl rfl ?_
  simp [cosV]
end Go.Proofs.YtcjpfjklhhclmaaGreatDoor

namespace Go.Proofs.YtcjpfjklhhclmaaGreatDoor
open Go Go.Ab
set_option maxRecDepth 100000

def hungOk (h : Hung) : Bool := isName h.bell && (decide (1 ≤ h.mass) && decide (h.mass ≤ 20000000)) && (decide (1 ≤ h.arm) && decide (h.arm ≤ 30000)) && (decide (1 ≤ h.form) && decide (h.form ≤ 1000)) && (decide (1 ≤ h.angle) && decide (h.angle ≤ 180))
structure HungIn (h : Hung) : Prop where
  m0 : 1 ≤ h.mass
  m1 : h.mass ≤ 20000000
  a0 : 1 ≤ h.arm
  a1 : h.arm ≤ 30000
  f0 : 1 ≤ h.form
  f1 : h.form ≤ 1000
  g0 : 1 ≤ h.angle
  g1 : h.angle ≤ 180
theorem hung_in {h : Hung} (k : hungOk h = true) : HungIn h := by
  simp only [hungOk, Bool.and_eq_true, decide_eq_true_eq] at k
  obtain ⟨⟨⟨⟨_, k1, k2⟩, k3, k4⟩, k5, k6⟩, k7, k8⟩ := k
  exact ⟨k1, k2, k3, k4, k5, k6, k7, k8⟩
def weightV (m : Int) : Int := nearV (m * 981) 100000
def horV (h : Hung) (d : Int) : Int := nearV (weightV h.mass * h.form * (3 * cosV d - 2 * cosV h.angle) * sinV d) 1000000000
/-- The greatest force up to angle i, and its angle. -/
def bestV (h : Hung) : Nat → Int × Int
  | 0 => (horV h 0, 0)
  | i + 1 => if (bestV h i).1 < horV h ((i + 1 : Nat) : Int) then (horV h ((i + 1 : Nat) : Int), ((i + 1 : Nat) : Int)) else bestV h i
def lenOf (h : Hung) : Int := nearV (1000 * h.arm) h.form
def qOf (h : Hung) : Int := (sinV (h.angle.tdiv 2) * sinV (h.angle.tdiv 2)).tdiv 1000
def rOf (h : Hung) : Int := rootV ((40243 * lenOf h).tdiv 100)
def perV (h : Hung) : Int := rOf h + nearV (rOf h * (16000 * qOf h + 9 * qOf h * qOf h)) 64000000
def rateV (h : Hung) : Int := nearV 1000000 (max (perV h) 1)
def swingV (h : Hung) : Swing := ⟨h.bell, rateV h, (bestV h h.angle.toNat).1⟩
def swingOk (s : Swing) : Bool := isName s.bell && (decide (100 ≤ s.rate) && decide (s.rate ≤ 5000)) && (decide (1 ≤ s.force) && decide (s.force ≤ 1000000))

/-! ### Bounds -/
theorem weight_le {m : Int} (h0 : 1 ≤ m) (h1 : m ≤ 20000000) : 0 ≤ weightV m ∧ weightV m ≤ 196200 := by
  have h2 := near_nonneg (a := m * 981) (b := 100000) (by decide) (by omega)
  have h3 := near_le (a := m * 981) (b := 100000) (M := 196200) (by decide) (by decide) (by omega) (by omega)
  exact ⟨h2, h3.2⟩
theorem wf_le {h : Hung} (k : HungIn h) : 0 ≤ weightV h.mass * h.form ∧ weightV h.mass * h.form ≤ 196200000 := by
  obtain ⟨h1, h2⟩ := weight_le k.m0 k.m1
  refine ⟨Int.mul_nonneg h1 (by have := k.f0; omega), ?_⟩
  have := Int.mul_le_mul h2 k.f1 (by have := k.f0; omega) (by omega)
  omega
theorem hor_le {h : Hung} (k : HungIn h) (d : Int) : -981000000000 ≤ weightV h.mass * h.form * (3 * cosV d - 2 * cosV h.angle) ∧ weightV h.mass * h.form * (3 * cosV d - 2 * cosV h.angle) ≤ 981000000000 ∧
    Mid (weightV h.mass * h.form * (3 * cosV d - 2 * cosV h.angle) * sinV d) := by
  obtain ⟨h1, h2⟩ := wf_le k
  have c1 := sinV_le (turnV d + 90)
  have c2 := sinV_le (turnV h.angle + 90)
  have s := sinV_le d
  change -1000 ≤ cosV d ∧ cosV d ≤ 1000 at c1
  change -1000 ≤ cosV h.angle ∧ cosV h.angle ≤ 1000 at c2
  have e1 := mul_le_abs (a := weightV h.mass * h.form) (b := 3 * cosV d - 2 * cosV h.angle) (A := 196200000) (B := 5000) (by decide) (by decide) (by omega) h2 (by omega) (by omega)
  generalize weightV h.mass * h.form * (3 * cosV d - 2 * cosV h.angle) = x at *
  have e2 := mul_le_abs (a := x) (b := sinV d) (A := 981000000000) (B := 1000) (by decide) (by decide) (by omega) (by omega) (by omega) (by omega)
  exact ⟨by omega, by omega, by omega, by omega⟩
theorem len_le {h : Hung} (k : HungIn h) : 0 ≤ lenOf h ∧ lenOf h ≤ 30000000 := by
  have h1 := k.a0
  have h2 := k.a1
  have h3 := k.f0
  refine ⟨near_nonneg (by omega) (by omega), ?_⟩
  have hm : h.form * 30000000 ≥ 30000000 := by omega
  exact (near_le (M := 30000000) (by omega) (by decide) (by omega) (by omega)).2
theorem r_le {h : Hung} (k : HungIn h) : 0 ≤ rOf h ∧ rOf h ≤ 200000 ∧ 0 ≤ (40243 * lenOf h).tdiv 100 ∧ (40243 * lenOf h).tdiv 100 ≤ 12072900000 := by
  obtain ⟨h1, h2⟩ := len_le k
  have e : (40243 * lenOf h).tdiv 100 = (40243 * lenOf h) / 100 := Int.tdiv_eq_ediv_of_nonneg (by omega)
  have h3 : 0 ≤ (40243 * lenOf h).tdiv 100 ∧ (40243 * lenOf h).tdiv 100 ≤ 12072900000 := by rw [e]; omega
  have := rootV_le (n := (40243 * lenOf h).tdiv 100) (M := 200000) (by decide) (by omega) h3.1
  exact ⟨this.1, this.2, h3.1, h3.2⟩
theorem q_le (h : Hung) : 0 ≤ sinV (h.angle.tdiv 2) * sinV (h.angle.tdiv 2) ∧ sinV (h.angle.tdiv 2) * sinV (h.angle.tdiv 2) ≤ 1000000 ∧ 0 ≤ qOf h ∧ qOf h ≤ 1000 := by
  have s := sinV_le (h.angle.tdiv 2)
  have e1 := mul_le_abs (a := sinV (h.angle.tdiv 2)) (b := sinV (h.angle.tdiv 2)) (A := 1000) (B := 1000) (by decide) (by decide) (by omega) (by omega) (by omega) (by omega)
  have e0 : 0 ≤ sinV (h.angle.tdiv 2) * sinV (h.angle.tdiv 2) := by
    rcases Int.le_total 0 (sinV (h.angle.tdiv 2)) with g | g
    · exact Int.mul_nonneg g g
    · exact Int.mul_nonneg_of_nonpos_of_nonpos g g
  have e2 : qOf h = (sinV (h.angle.tdiv 2) * sinV (h.angle.tdiv 2)) / 1000 := Int.tdiv_eq_ediv_of_nonneg e0
  exact ⟨e0, by omega, by rw [e2]; omega, by rw [e2]; omega⟩
theorem per_le {h : Hung} (k : HungIn h) : 0 ≤ 9 * qOf h * qOf h ∧ 9 * qOf h * qOf h ≤ 9000000 ∧ 0 ≤ rOf h * (16000 * qOf h + 9 * qOf h * qOf h) ∧ rOf h * (16000 * qOf h + 9 * qOf h * qOf h) ≤ 5000000000000 ∧ 0 ≤ perV h ∧ perV h ≤ 300000 := by
  obtain ⟨r0, r1, _⟩ := r_le k
  obtain ⟨_, _, q0, q1⟩ := q_le h
  have e1 := mul_le_abs (a := 9 * qOf h) (b := qOf h) (A := 9000) (B := 1000) (by decide) (by decide) (by omega) (by omega) (by omega) (by omega)
  have e0 : 0 ≤ 9 * qOf h * qOf h := Int.mul_nonneg (by omega) q0
  have hp : perV h = rOf h + nearV (rOf h * (16000 * qOf h + 9 * qOf h * qOf h)) 64000000 := rfl
  rw [hp]
  generalize 9 * qOf h * qOf h = y at *
  have e2 := mul_le_abs (a := rOf h) (b := 16000 * qOf h + y) (A := 200000) (B := 25000000) (by decide) (by decide) (by omega) (by omega) (by omega) (by omega)
  have e3 : 0 ≤ rOf h * (16000 * qOf h + y) := Int.mul_nonneg r0 (by omega)
  have e4 := near_le (a := rOf h * (16000 * qOf h + y)) (b := 64000000) (M := 78125) (by decide) (by decide) (by omega) (by omega)
  have e5 := near_nonneg (a := rOf h * (16000 * qOf h + y)) (b := 64000000) (by decide) e3
  exact ⟨e0, by omega, e3, by omega, by omega, by omega⟩

/-! ### Contracts -/
theorem c_weightOf (m : Int) (h0 : 1 ≤ m) (h1 : m ≤ 20000000) : HFn Tryz.prog 286 [.int .i64 m] [] (.int .i64 (weightV m)) [] := by
  refine hfn_intro hm Tryz.func286 (by kernel_rfl) rfl (by kernel_rfl) rfl ret0_ok ?_
  have w1 : IntKind.i64.wrap (m * 981) = m * 981 := w64 (by omega) (by omega)
  simp [w1]
  refine CallZ.use0 (c_nearest _ _ ⟨by omega, by omega⟩ (by decide) (by decide)) rfl rfl ?_
  simp [weightV]
theorem c_horizontal (h : Hung) (k : HungIn h) (d : Int) (hd : Mid d) : HFn Tryz.prog 221 [.agg h.cells, .int .i64 d] [] (.int .i64 (horV h d)) [] := by
  have kw := c_weightOf h.mass k.m0 k.m1
  have k1 := c_CosineOf d hd
  have k2 := c_SineOf d hd
  have k3 := c_CosineOf h.angle ⟨by have := k.g0; omega, by have := k.g1; omega⟩
  obtain ⟨u1, u2⟩ := wf_le k
  obtain ⟨v1, v2, v3⟩ := hor_le k d
  have c1 := sinV_le (turnV d + 90)
  have c2 := sinV_le (turnV h.angle + 90)
  change -1000 ≤ cosV d ∧ cosV d ≤ 1000 at c1
  change -1000 ≤ cosV h.angle ∧ cosV h.angle ≤ 1000 at c2
  have kn := c_nearest _ 1000000000 v3 (by decide) (by decide)
  have e : horV h d = nearV (weightV h.mass * h.form * (3 * cosV d - 2 * cosV h.angle) * sinV d) 1000000000 := rfl
  rw [← e] at kn
  clear e
  have w1 : IntKind.i64.wrap (weightV h.mass * h.form) = weightV h.mass * h.form := w64 (by omega) (by omega)
  have w2 : IntKind.i64.wrap (3 * cosV d) = 3 * cosV d := w64 (by omega) (by omega)
  have w3 : IntKind.i64.wrap (2 * cosV h.angle) = 2 * cosV h.angle := w64 (by omega) (by omega)
  have w4 : IntKind.i64.wrap (3 * cosV d - 2 * cosV h.angle) = 3 * cosV d - 2 * cosV h.angle := w64 (by omega) (by omega)
  have w5 : IntKind.i64.wrap (weightV h.mass * h.form * (3 * cosV d - 2 * cosV h.angle)) = weightV h.mass * h.form * (3 * cosV d - 2 * cosV h.angle) := w64 (by omega) (by omega)
  have w6 : IntKind.i64.wrap (weightV h.mass * h.form * (3 * cosV d - 2 * cosV h.angle) * sinV d) = weightV h.mass * h.form * (3 * cosV d - 2 * cosV h.angle) * sinV d := w64 (by have := v3.1; omega) (by have := v3.2; omega)
  refine hfn_intro hm Tryz.func221 (by kernel_rfl) rfl (by kernel_rfl) rfl ret0_ok ?_
  simp [Hung.cells]
  refine CallZ.use0 kw rfl rfl ?_
  simp
  refine CallZ.use0 k1 rfl rfl ?_
  simp
  refine CallZ.use0 k2 rfl rfl ?_
  simp
  refine CallZ.use0 k3 rfl rfl ?_
  simp [w1, w2, w3, w4, w5, w6]
  refine CallZ.use0 kn rfl rfl ?_
  simp
end Go.Proofs.YtcjpfjklhhclmaaGreatDoor
