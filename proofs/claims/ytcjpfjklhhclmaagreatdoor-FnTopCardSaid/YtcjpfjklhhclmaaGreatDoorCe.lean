/- Contracts: names of troubles. Contracts: names, numbers in bounds. Contracts: orders. -/
import Derived.Test.YtcjpfjklhhclmaaGreatDoorTy
import Derived.Test.YtcjpfjklhhclmaaGreatDoorKc
namespace Go.Proofs.YtcjpfjklhhclmaaGreatDoor
open Go Go.Ab
set_option maxRecDepth 100000

theorem c_within (n lo hi : Int) : HFn Tryz.prog 146 [.int .i64 n, .int .i64 lo, .int .i64 hi] [] (.bool (decide (lo ≤ n) && decide (n ≤ hi))) [] := by
  refine hfn_intro hm Tryz.func146 (by kernel_rfl) rfl (by kernel_rfl) rfl ret0_ok ?_
  simp

theorem c_l00In (n lo hi : Int) : HFn Tryz.prog 107 [.int .i64 n, .int .i64 lo, .int .i64 hi] [] (.bool (decide (lo ≤ n) && decide (n ≤ hi))) [] := by
  refine hfn_intro hm Tryz.func107 (by kernel_rfl) rfl (by kernel_rfl) rfl ret0_ok ?_
  simp

theorem c_isTrouble (n : Int) : HFn Tryz.prog 55 [.int .i64 n] [] (.bool (decide (1 ≤ n) && decide (n ≤ 8))) [] := by
  refine hfn_intro hm Tryz.func55 (by kernel_rfl) rfl (by kernel_rfl) rfl ret0_ok ?_
  simp
  refine CallZ.use0 (c_within _ _ _) rfl rfl ?_
  simp

def troubleNames : List (List UInt8) := [[], [116, 114, 97, 99, 101], [115, 119, 105, 110, 103], [112, 108, 97, 99, 101], [99, 108, 97, 115, 104], [116, 111, 119, 101, 114], [102, 114, 97, 109, 101], [107, 101, 121], [116, 117, 110, 101]]
def troubleName (n : Int) : List UInt8 := if 1 ≤ n ∧ n ≤ 8 then troubleNames.getD n.toNat [] else []

theorem cases8 {n : Int} (h1 : 1 ≤ n) (h2 : n ≤ 8) : n = 1 ∨ n = 2 ∨ n = 3 ∨ n = 4 ∨ n = 5 ∨ n = 6 ∨ n = 7 ∨ n = 8 := by omega

theorem c_impl_TroubleName (n : Int) : HFn Tryz.prog 22 [.int .i64 n] [] (.str (troubleName n)) [] := by
  refine hfn_intro hm Tryz.func22 (by kernel_rfl) rfl (by kernel_rfl) rfl ret0_ok ?_
  simp
  refine CallZ.use0 (c_isTrouble _) rfl rfl ?_
  simp
  refine ⟨fun h => ?_, fun h1 h2 => ?_⟩
  · simp [troubleName]; omega
  · rw [w64 (by omega) (by omega)]
    rcases cases8 h1 h2 with rfl | rfl | rfl | rfl | rfl | rfl | rfl | rfl <;> simp [troubleName, troubleNames]

end Go.Proofs.YtcjpfjklhhclmaaGreatDoor

namespace Go.Proofs.YtcjpfjklhhclmaaGreatDoor
open Go Go.Ab
set_option maxRecDepth 100000

/-! ### Names -/

def isSmall (b : UInt8) : Bool := decide ((97 : Int) ≤ b.toNat) && decide ((b.toNat : Int) ≤ 122)
def isDigit (b : UInt8) : Bool := decide ((48 : Int) ≤ b.toNat) && decide ((b.toNat : Int) ≤ 57)
/-- Byte i of a name. -/
def nameAt (s : List UInt8) (i : Nat) : Bool := isSmall (s.getD i 0) || (decide (i ≠ 0) && isDigit (s.getD i 0))
def isName (s : List UInt8) : Bool := decide (1 ≤ s.length) && decide (s.length ≤ 10) && (List.range s.length).all (nameAt s)

theorem c_l01Small (b : UInt8) : HFn Tryz.prog 228 [.int .u8 b.toNat] [] (.bool (isSmall b)) [] := by
  refine hfn_intro hm Tryz.func228 (by kernel_rfl) rfl (by kernel_rfl) rfl ret0_ok ?_
  simp [isSmall]

theorem c_l01Digit (b : UInt8) : HFn Tryz.prog 229 [.int .u8 b.toNat] [] (.bool (isDigit b)) [] := by
  refine hfn_intro hm Tryz.func229 (by kernel_rfl) rfl (by kernel_rfl) rfl ret0_ok ?_
  simp [isDigit]

theorem c_impl_IsName (s : List UInt8) : HFn Tryz.prog 218 [.str s] [] (.bool (isName s)) [] := by
  refine hfn_intro hm Tryz.func218 (by kernel_rfl) rfl (by kernel_rfl) rfl ret0_ok ?_
  simp
  refine ⟨fun h => ?_, fun h1 h2 => ?_⟩
  · simp only [isName]
    rcases h with h | h
    · simp [show ¬ 1 ≤ s.length by omega]
    · simp [show ¬ s.length ≤ 10 by omega]
  · have hN : isName s = (List.range s.length).all (nameAt s) := by simp only [isName]; simp [show 1 ≤ s.length by omega, show s.length ≤ 10 by omega]
    rw [hN]
    refine loop_upto hm s.length (fun i => ⟨[(16, .sl 1 (bytesV s)), (17, .int .i64 s.length), (18, .int .i64 i)], []⟩) (fun i => ∀ j, j < i → nameAt s j = true) (by kernel_rfl) ?_ (by simp) (fun i hi hI => ?_) (fun hI => ?_)
    · exact Wk.weak (ρ := []) (φ := []) (by simp [bytesV])
    · have hn : nameAt s i = true ↔ (((97 : Int) ≤ s[i].toNat ∧ (s[i].toNat : Int) ≤ 122) ∨ (¬ i = 0 ∧ (48 : Int) ≤ s[i].toNat ∧ (s[i].toNat : Int) ≤ 57)) := by
        simp [nameAt, hi, isSmall, isDigit]
      simp [bytesV, hi]
      refine ⟨by omega, by omega, fun h3 h4 => ⟨i, hi, ?_⟩, fun h => ⟨fun j hj => ?_, ?_⟩⟩
      · rw [← Bool.not_eq_true, hn]
        omega
      · by_cases e : j = i
        · subst e
          rw [hn]
          omega
        · exact hI j (by omega)
      · refine Wk.weak (ρ := []) (φ := []) ?_
        simp
        exact w64 (by omega) (by omega)
    · simp [bytesV]
      exact fun j hj => hI j hj

theorem c_spec_l01Name (s : List UInt8) : HFn Tryz.prog 139 [.str s] [] (.bool (isName s)) [] := by
  refine hfn_intro hm Tryz.func139 (by kernel_rfl) rfl (by kernel_rfl) rfl ret0_ok ?_
  simp
  have hlen : ¬ s = [] → 0 < s.length := fun h => List.length_pos_iff.2 h
  refine ⟨fun h1 h2 => ⟨⟨h1, h2⟩, hlen h1⟩, fun h1 h2 => ⟨h1, h2⟩, CallY.use (res := .bool (isSmall (s.getD 0 0))) (fun _ => ⟨rfl, ?_⟩) rfl rfl ?_⟩
  · have := c_l01Small (s.getD 0 0)
    simpa using this
  simp
  have hat : ∀ i, ∀ h : i < s.length, nameAt s i = (isSmall s[i] || (decide (i ≠ 0) && isDigit s[i])) := fun i h => by simp [nameAt, h]
  refine ⟨fun h1 h2 => ⟨h1, h2⟩, fun h => ?_, fun h1 h2 h3 => ?_⟩
  · rcases h with (h | h) | h
    · simp [isName, h]
    · simp [isName, show ¬ s.length ≤ 10 by omega]
    · by_cases h0 : s = []
      · simp [isName, h0]
      · have := hlen h0
        have hz : nameAt s 0 = false := by simpa [nameAt] using h
        have : (List.range s.length).all (nameAt s) = false := by
          rw [← Bool.not_eq_true, List.all_eq_true]
          exact fun hc => by rw [hc 0 (List.mem_range.2 this)] at hz; cases hz
        simp only [isName, this, Bool.and_false]
  · have h0 := hlen h1
    have hN : isName s = (List.range s.length).all (nameAt s) := by simp only [isName]; simp [show 1 ≤ s.length by omega, show s.length ≤ 10 by omega]
    rw [hN]
    refine loop_upto hm s.length (fun i => ⟨[(0, .str s), (3, .int .i64 i)], []⟩) (fun i => ∀ j, j < i → nameAt s j = true) (by kernel_rfl) ?_ (by simp) (fun i hi hI => ?_) (fun hI => ?_)
    · exact Wk.weak (ρ := []) (φ := []) (by simp)
    · simp [hi]
      refine CallZ.use0 (c_l01Small _) rfl rfl ?_
      simp
      refine ⟨fun h => ⟨h, hi⟩, CallY.use (res := .bool (isDigit s[i])) (fun _ => ⟨rfl, by simpa [hi] using c_l01Digit s[i]⟩) rfl rfl ?_⟩
      simp
      refine ⟨fun h4 h5 => ⟨i, hi, ?_⟩, fun h => ⟨fun j hj => ?_, ?_⟩⟩
      · simp [hat i hi, h4, h5]
      · by_cases e : j = i
        · subst e
          rw [hat j hi]
          by_cases h5 : isSmall s[j] = true
          · simp [h5]
          · have h6 : isSmall s[j] = false := by simpa using h5
            have h7 : j ≠ 0 := fun e => by subst e; simp [hi] at h3; rw [h3] at h6; cases h6
            simp [h6, h7, h h6]
        · exact hI j (by omega)
      · refine Wk.weak (ρ := []) (φ := []) ?_
        simp
        exact w64 (by omega) (by omega)
    · simp
      exact fun j hj => hI j hj
end Go.Proofs.YtcjpfjklhhclmaaGreatDoor

namespace Go.Proofs.YtcjpfjklhhclmaaGreatDoor
open Go Go.Ab
set_option maxRecDepth 100000

theorem c_isMass (n : Int) : HFn Tryz.prog 219 [.int .i64 n] [] (.bool (decide (1 ≤ n) && decide (n ≤ 20000000))) [] := by
  refine hfn_intro hm Tryz.func219 (by kernel_rfl) rfl (by kernel_rfl) rfl ret0_ok ?_
  simp
  refine CallZ.use0 (c_within _ _ _) rfl rfl ?_
  simp
theorem c_isNote (n : Int) : HFn Tryz.prog 212 [.int .i64 n] [] (.bool (decide (0 ≤ n) && decide (n ≤ 127))) [] := by
  refine hfn_intro hm Tryz.func212 (by kernel_rfl) rfl (by kernel_rfl) rfl ret0_ok ?_
  simp
  refine CallZ.use0 (c_within _ _ _) rfl rfl ?_
  simp
theorem c_l03Note (n : Int) : HFn Tryz.prog 233 [.int .i64 n] [] (.bool (decide (0 ≤ n) && decide (n ≤ 127))) [] := by
  refine hfn_intro hm Tryz.func233 (by kernel_rfl) rfl (by kernel_rfl) rfl ret0_ok ?_
  simp
  try refine CallZ.use0 (c_l00In _ _ _) rfl rfl ?_
  try simp

end Go.Proofs.YtcjpfjklhhclmaaGreatDoor
