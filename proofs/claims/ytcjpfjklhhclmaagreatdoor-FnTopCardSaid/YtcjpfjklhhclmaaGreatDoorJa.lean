/- Contracts: numbers and lists of numbers as text. -/
import Derived.Test.YtcjpfjklhhclmaaGreatDoorTI
import Derived.Test.YtcjpfjklhhclmaaGreatDoorBa
import Derived.Lib.ItoaNum
import Derived.Lib.ItoaLen
import Derived.Lib.Join
namespace Go.Proofs.YtcjpfjklhhclmaaGreatDoor
open Go Go.Ab
set_option maxRecDepth 100000

theorem bytesV_len (l : List UInt8) : (bytesV l).length = l.length := by simp [bytesV]
theorem bytesV_getE (l : List UInt8) {i : Nat} (h : i < (bytesV l).length) : (bytesV l)[i] = [PV.int .u8 (l[i]'(by rw [bytesV_len] at h; exact h)).toNat] := by simp [bytesV]
theorem bytesV_app (a b : List UInt8) : bytesV (a ++ b) = bytesV a ++ bytesV b := by simp [bytesV]
theorem bytesV_one (b : UInt8) : bytesV [b] = [[.int .u8 b.toNat]] := rfl
theorem byteC_all (l : List UInt8) : ∀ r ∈ bytesV l, byteC r = true := fun r hr => by
  obtain ⟨b, _, rfl⟩ := List.mem_map.1 hr
  have := b.toNat_lt
  simp [byteC]
  omega
theorem byteV_all (l : List UInt8) : (bytesV l).map byteV = l := by
  unfold bytesV
  rw [List.map_map]
  conv => rhs; rw [← List.map_id l]
  refine List.map_congr_left fun b _ => ?_
  simp [byteV]

/-- The digits of a number that is not 0, the last one first. -/
def revDig (u : Nat) : List UInt8 := if h : u = 0 then [] else UInt8.ofNat (48 + u % 10) :: revDig (u / 10)
termination_by u
decreasing_by omega
theorem revDig_zero : revDig 0 = [] := by rw [revDig, dif_pos rfl]
theorem revDig_pos {u : Nat} (h : u ≠ 0) : revDig u = UInt8.ofNat (48 + u % 10) :: revDig (u / 10) := by rw [revDig, dif_neg h]
theorem decDigits_rev : ∀ {u : Nat}, u ≠ 0 → Lib.decDigits u = (revDig u).reverse
  | u, h => by
    rw [Lib.decDigits, revDig_pos h]
    by_cases h1 : u < 10
    · rw [dif_pos h1]
      have e : u / 10 = 0 := by omega
      rw [e, revDig_zero, Nat.mod_eq_of_lt h1]
      rfl
    · rw [dif_neg h1, decDigits_rev (u := u / 10) (by omega), List.reverse_cons]
termination_by u => u
decreasing_by omega
theorem revDig_len20 : ∀ (k u : Nat), u < 10 ^ k → (revDig u).length ≤ k
  | 0, u, h => by
    have : u = 0 := by simpa using h
    subst this; rw [revDig_zero]; exact Nat.le_refl _
  | k + 1, u, h => by
    by_cases h0 : u = 0
    · subst h0; rw [revDig_zero]; exact Nat.zero_le _
    · rw [revDig_pos h0, List.length_cons]
      have := revDig_len20 k (u / 10) (by rw [Nat.pow_succ] at h; omega)
      omega

theorem revDig_zero_abs : revDig (0 : Int).natAbs = [] := revDig_zero
theorem itoa_zero : Lib.itoa 0 = [48] := by simp [Lib.itoa, Lib.decDigits_one]
theorem itoa_pos {n : Int} (h : 0 < n) : Lib.itoa n = (revDig n.natAbs).reverse := by
  unfold Lib.itoa
  rw [if_neg (by omega), decDigits_rev (by omega)]
  congr 2
  omega
theorem itoa_neg {n : Int} (h : n < 0) : Lib.itoa n = 45 :: (revDig n.natAbs).reverse := by
  unfold Lib.itoa
  rw [if_pos h, decDigits_rev (by omega)]

theorem tq10 (x : Int) : (x.tdiv 10).natAbs = x.natAbs / 10 ∧ (x.tmod 10).natAbs = x.natAbs % 10 ∧ (0 ≤ x → 0 ≤ x.tdiv 10 ∧ 0 ≤ x.tmod 10) ∧ (x ≤ 0 → x.tdiv 10 ≤ 0 ∧ x.tmod 10 ≤ 0) := by
  rcases Int.le_total 0 x with h | h
  · rw [Int.tdiv_eq_ediv_of_nonneg h, Int.tmod_eq_emod_of_nonneg h]
    omega
  · obtain ⟨y, rfl⟩ : ∃ y, x = -y := ⟨-x, by omega⟩
    have hy : 0 ≤ y := by omega
    rw [Int.neg_tdiv, Int.neg_tmod, Int.tdiv_eq_ediv_of_nonneg hy, Int.tmod_eq_emod_of_nonneg hy]
    omega
theorem dig8 {d : Nat} (h : d < 10) : IntKind.u8.wrap (IntKind.i64.wrap (48 + (d : Int))) = ((UInt8.ofNat (48 + d)).toNat : Int) := by
  rw [w64 (by omega) (by omega), w8 (by omega) (by omega)]
  have : (UInt8.ofNat (48 + d)).toNat = 48 + d := by simp; omega
  rw [this]
  omega

theorem c_l01Dec (n : Int) (hn : I64 n) : HFn Tryz.prog 99 [.int .i64 n] [] (.str (Lib.itoa n)) [] := by
  obtain ⟨hn1, hn2⟩ := hn
  refine hfn_intro hm Tryz.func99 (by kernel_rfl) rfl (by kernel_rfl) rfl ret0_ok ?_
  simp
  refine ⟨fun h => by subst h; exact itoa_zero.symm, fun h0 => ?_⟩
  have hu : (revDig n.natAbs).length ≤ 20 := revDig_len20 20 _ (by omega)
  refine loop_rule hm (ι := {x : List UInt8 × Int // x.1 ++ revDig x.2.natAbs = revDig n.natAbs ∧ I64 x.2 ∧ (0 < n → 0 ≤ x.2) ∧ (n < 0 → x.2 ≤ 0)}) (fun x => ⟨[(0, .int .i64 n), (3, .sf 0 1), (4, .int .i64 x.1.2)], [some (.arr 1 (bytesV x.1.1))]⟩) (fun x => x.1.2.natAbs) (by kernel_rfl) ⟨([], n), by simp, ⟨hn1, hn2⟩, by simp; omega, by simp; omega⟩ ?_ ?_
  · refine (weak_nil (t := 3) (z := 1) rfl).trans (Wk.weak (ρ := [0]) (φ := []) ?_)
    simp [bytesV]
  · rintro ⟨⟨D, x⟩, h1, ⟨h2, h3⟩, h4, h5⟩
    simp only at h1 h2 h3 h4 h5 ⊢
    simp
    obtain ⟨q1, q2, q3, q4⟩ := tq10 x
    have hd : x.natAbs % 10 < 10 := Nat.mod_lt _ (by omega)
    have hl : (bytesV D).length ≤ 20 := by
      rw [bytesV_len]
      have := congrArg List.length h1
      rw [List.length_append] at this
      omega
    have wq : IntKind.i64.wrap (x.tdiv 10) = x.tdiv 10 := w64 (by omega) (by omega)
    refine ⟨fun hx => ?_, fun hx => ?_⟩
    · have hr : revDig x.natAbs = UInt8.ofNat (48 + x.natAbs % 10) :: revDig (x.tdiv 10).natAbs := by rw [revDig_pos (by omega), q1]
      have key : (D ++ [UInt8.ofNat (48 + x.natAbs % 10)]) ++ revDig (x.tdiv 10).natAbs = revDig n.natAbs := by rw [← h1, hr]; simp
      refine ⟨fun h => ?_, fun h => ?_⟩
      · have e : IntKind.i64.wrap (-x.tmod 10) = ((x.natAbs % 10 : Nat) : Int) := by rw [w64 (by omega) (by omega)]; omega
        rw [e, dig8 hd, wq]
        refine ⟨by simp [rowsOne], by omega, by omega, D ++ [UInt8.ofNat (48 + x.natAbs % 10)], x.tdiv 10, Wk.weak (ρ := [0]) (φ := []) ?_, ⟨key, ⟨by omega, by omega⟩, by omega, by omega⟩, by omega⟩
        simp [bytesV_app, bytesV_one]
      · have e : x.tmod 10 = ((x.natAbs % 10 : Nat) : Int) := by omega
        rw [e, dig8 hd, wq]
        refine ⟨by simp [rowsOne], by omega, by omega, D ++ [UInt8.ofNat (48 + x.natAbs % 10)], x.tdiv 10, Wk.weak (ρ := [0]) (φ := []) ?_, ⟨key, ⟨by omega, by omega⟩, by omega, by omega⟩, by omega⟩
        simp [bytesV_app, bytesV_one]
    · have hx' : x = 0 := by omega
      subst hx'
      rw [revDig_zero_abs, List.append_nil] at h1
      have hDl : (bytesV D).length = D.length := bytesV_len D
      refine ⟨fun hneg => ?_, fun hpos => ?_⟩
      · refine ⟨by simp [rowsOne], by omega, by omega, ?_⟩
        obtain ⟨L, hL⟩ : ∃ L, D ++ [45] = L := ⟨_, rfl⟩
        have hLr : L.reverse = Lib.itoa n := by rw [← hL, itoa_neg hneg, ← h1]; simp
        have hLl : L.length ≤ 21 := by rw [← hL]; simp; omega
        refine loop_upto hm L.length (fun i => ⟨[(3, .sf 0 1), (6, .sf 1 1), (7, .int .i64 ((L.length : Int) - 1 - i))], [some (.arr 1 (bytesV L)), some (.arr 1 (bytesV (L.reverse.take i)))]⟩) (fun _ => True) (by kernel_rfl) ?_ trivial (fun i hi _ => ?_) (fun _ => ?_)
        · refine (weak_nil (t := 6) (z := 1) rfl).trans (Wk.weak (ρ := [0, 2]) (φ := []) ?_)
          simp [bytesV_len, ← hL, bytesV_app, bytesV_one]
          simp [bytesV]
          try rw [w64 (by omega) (by omega)]
          try omega
        · obtain ⟨k, hk⟩ : ∃ k, k = L.length - 1 - i := ⟨_, rfl⟩
          have ek : (L.length : Int) - 1 - i = (k : Int) := by omega
          have kl : k < L.length := by omega
          have ek1 : IntKind.i64.wrap ((k : Int) - 1) = (k : Int) - 1 := w64 (by omega) (by omega)
          have hre : L.reverse.take (i + 1) = L.reverse.take i ++ [L[k]] := by
            rw [← List.take_append_getElem (by simp; omega)]
            congr 2
            rw [List.getElem_reverse]
            congr 1
            omega
          rw [ek]
          simp [bytesV_len, bytesV_getE, kl]
          refine ⟨by simp [rowsOne], by omega, by omega, Wk.weak (ρ := [0, 1]) (φ := []) ?_⟩
          simp [ek1, hre, bytesV_app, bytesV_one]
          omega
        · simp [byteV_all, hLr]
          exact ⟨by omega, fun _ => ⟨byteC_all _, by rw [← hLr, List.take_of_length_le (by simp)]⟩⟩
      · obtain ⟨L, hL⟩ : ∃ L, D = L := ⟨_, rfl⟩
        have hLr : L.reverse = Lib.itoa n := by rw [← hL, itoa_pos (by omega), ← h1]
        have hLl : L.length ≤ 21 := by rw [← hL]; omega
        refine loop_upto hm L.length (fun i => ⟨[(3, .sf 0 1), (6, .sf 1 1), (7, .int .i64 ((L.length : Int) - 1 - i))], [some (.arr 1 (bytesV L)), some (.arr 1 (bytesV (L.reverse.take i)))]⟩) (fun _ => True) (by kernel_rfl) ?_ trivial (fun i hi _ => ?_) (fun _ => ?_)
        · refine (weak_nil (t := 6) (z := 1) rfl).trans (Wk.weak (ρ := [0, 1]) (φ := []) ?_)
          simp [bytesV_len, ← hL]
          simp [bytesV]
          try rw [w64 (by omega) (by omega)]
          try omega
        · obtain ⟨k, hk⟩ : ∃ k, k = L.length - 1 - i := ⟨_, rfl⟩
          have ek : (L.length : Int) - 1 - i = (k : Int) := by omega
          have kl : k < L.length := by omega
          have ek1 : IntKind.i64.wrap ((k : Int) - 1) = (k : Int) - 1 := w64 (by omega) (by omega)
          have hre : L.reverse.take (i + 1) = L.reverse.take i ++ [L[k]] := by
            rw [← List.take_append_getElem (by simp; omega)]
            congr 2
            rw [List.getElem_reverse]
            congr 1
            omega
          rw [ek]
          simp [bytesV_len, bytesV_getE, kl]
          refine ⟨by simp [rowsOne], by omega, by omega, Wk.weak (ρ := [0, 1]) (φ := []) ?_⟩
          simp [ek1, hre, bytesV_app, bytesV_one]
          omega
        · simp [byteV_all, hLr]
          exact ⟨by omega, fun _ => ⟨byteC_all _, by rw [← hLr, List.take_of_length_le (by simp)]⟩⟩
end Go.Proofs.YtcjpfjklhhclmaaGreatDoor
