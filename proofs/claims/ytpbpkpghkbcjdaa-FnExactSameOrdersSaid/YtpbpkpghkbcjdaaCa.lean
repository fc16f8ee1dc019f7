/- Contracts: names of troubles. -/
import Derived.Test.YtpbpkpghkbcjdaaTy
namespace Go.Proofs.Ytpbpkpghkbcjdaa
open Go Go.Ab
set_option maxRecDepth 100000

theorem c_within (n lo hi : Int) : HFn Try.prog 55 [.int .i64 n, .int .i64 lo, .int .i64 hi] [] (.bool (decide (lo ≤ n) && decide (n ≤ hi))) [] := by
  refine hfn_intro hm Try.func55 (by kernel_rfl) rfl (by kernel_rfl) rfl ret0_ok ?_
  simp

theorem c_l00In (n lo hi : Int) : HFn Try.prog 54 [.int .i64 n, .int .i64 lo, .int .i64 hi] [] (.bool (decide (lo ≤ n) && decide (n ≤ hi))) [] := by
  refine hfn_intro hm Try.func54 (by kernel_rfl) rfl (by kernel_rfl) rfl ret0_ok ?_
  simp

theorem c_isTrouble (n : Int) : HFn Try.prog 41 [.int .i64 n] [] (.bool (decide (1 ≤ n) && decide (n ≤ 8))) [] := by
  refine hfn_intro hm Try.func41 (by kernel_rfl) rfl (by kernel_rfl) rfl ret0_ok ?_
  simp
  refine CallZ.use0 (c_within _ _ _) rfl rfl ?_
  simp

theorem c_l31Kind (n : Int) : HFn Try.prog 39 [.int .i64 n] [] (.bool (decide (1 ≤ n) && decide (n ≤ 8))) [] := by
  refine hfn_intro hm Try.func39 (by kernel_rfl) rfl (by kernel_rfl) rfl ret0_ok ?_
  simp
  refine CallZ.use0 (c_l00In _ _ _) rfl rfl ?_
  simp

def troubleNames : List (List UInt8) := [[], [116, 114, 97, 99, 101], [115, 119, 105, 110, 103], [112, 108, 97, 99, 101], [99, 108, 97, 115, 104], [116, 111, 119, 101, 114], [102, 114, 97, 109, 101], [107, 101, 121], [116, 117, 110, 101]]
def troubleName (n : Int) : List UInt8 := if 1 ≤ n ∧ n ≤ 8 then troubleNames.getD n.toNat [] else []

theorem c_l31Names : HFn Try.prog 40 [] [] (.sf 0 1) [some (.arr 1 (troubleNames.map fun s => [.str s]))] := by
  refine hfn_intro hm Try.func40 (by kernel_rfl) rfl (by kernel_rfl) rfl (retN_ok (ρ := [0]) (φ := [])) ?_
  simp [troubleNames]

theorem cases8 {n : Int} (h1 : 1 ≤ n) (h2 : n ≤ 8) : n = 1 ∨ n = 2 ∨ n = 3 ∨ n = 4 ∨ n = 5 ∨ n = 6 ∨ n = 7 ∨ n = 8 := by omega

theorem c_impl_TroubleName (n : Int) : HFn Try.prog 11 [.int .i64 n] [] (.str (troubleName n)) [] := by
  refine hfn_intro hm Try.func11 (by kernel_rfl) rfl (by kernel_rfl) rfl ret0_ok ?_
  simp
  refine CallZ.use0 (c_isTrouble _) rfl rfl ?_
  simp
  refine ⟨fun h => ?_, fun h1 h2 => ?_⟩
  · simp [troubleName]; omega
  · rw [w64 (by omega) (by omega)]
    rcases cases8 h1 h2 with rfl | rfl | rfl | rfl | rfl | rfl | rfl | rfl <;> simp [troubleName, troubleNames]

theorem c_spec_TroubleName (n : Int) : HFn Try.prog 10 [.int .i64 n] [] (.str (troubleName n)) [] := by
  refine hfn_intro hm Try.func10 (by kernel_rfl) rfl (by kernel_rfl) rfl ret0_ok ?_
  simp
  refine CallZ.use0 (c_l31Kind _) rfl rfl ?_
  simp
  refine ⟨fun h => ?_, fun h1 h2 => ?_⟩
  · simp [troubleName]; omega
  · refine CallZ.use c_l31Names rfl (.inl rfl) rfl rfl ?_
    simp
    rcases cases8 h1 h2 with rfl | rfl | rfl | rfl | rfl | rfl | rfl | rfl <;> simp [troubleName, troubleNames]

theorem c_law_TroubleName (n : Int) : HFn Try.prog 3 [.int .i64 n] [] (.bool true) [] := by
  refine hfn_intro hm Try.func3 (by kernel_rfl) rfl (by kernel_rfl) rfl ret0_ok ?_
  simp
  refine CallZ.use0 (c_spec_TroubleName _) rfl rfl ?_
  simp
  refine CallZ.use0 (c_impl_TroubleName _) rfl rfl ?_
  simp
end Go.Proofs.Ytpbpkpghkbcjdaa
