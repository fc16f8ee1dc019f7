/- Contracts: texts of troubles. -/
import Derived.Test.YtpbpkpghkbcjdaaCa
namespace Go.Proofs.Ytpbpkpghkbcjdaa
open Go Go.Ab

theorem c_toTrouble (k : Int) (a b : List UInt8) : HFn Try.prog 14 [.agg [.int .i64 k, .str a, .str b]] [] (.agg [.int .i64 k, .str a, .str b]) [] := by
  refine hfn_intro hm Try.func14 (by kernel_rfl) rfl (by kernel_rfl) rfl ret0_ok ?_
  simp

def szTrouble (a b : List UInt8) (n : Int) : Int := if n - a.length < 0 then -1 else if n - a.length - b.length < 0 then -1 else n - a.length - b.length

theorem c_szTrouble (k n : Int) (a b : List UInt8) (hn : 0 ≤ n) (hn' : n ≤ 1048576) (ha : a.length ≤ 9223372036854775807) (hb : b.length ≤ 9223372036854775807) :
    HFn Try.prog 12 [.agg [.int .i64 k, .str a, .str b], .int .i64 n] [] (.int .i64 (szTrouble a b n)) [] := by
  refine hfn_intro hm Try.func12 (by kernel_rfl) rfl (by kernel_rfl) rfl ret0_ok ?_
  simp
  rw [w64 (by omega) (by omega)]
  refine ⟨fun h => ?_, fun h => ?_⟩
  · simp only [szTrouble]; rw [if_pos (by omega)]
  · rw [w64 (by omega) (by omega)]
    refine ⟨fun h' => ?_, fun h' => ?_⟩
    · simp only [szTrouble]; rw [if_neg (by omega), if_pos (by omega)]
    · simp only [szTrouble]; rw [if_neg (by omega), if_neg (by omega)]

def troubleText (k : Int) (a b : List UInt8) : List UInt8 := if 1 ≤ k ∧ k ≤ 8 then troubleName k ++ [32] ++ a ++ [32] ++ b else []

theorem troubleName_len (n : Int) : (troubleName n).length ≤ 5 := by
  unfold troubleName
  split
  · rename_i h
    rcases cases8 h.1 h.2 with rfl | rfl | rfl | rfl | rfl | rfl | rfl | rfl <;> simp [troubleNames]
  · simp

theorem c_impl_TroubleText (k : Int) (a b : List UInt8) (hl : a.length + b.length ≤ 1048576) : HFn Try.prog 15 [.agg [.int .i64 k, .str a, .str b]] [] (.str (troubleText k a b)) [] := by
  refine hfn_intro hm Try.func15 (by kernel_rfl) rfl (by kernel_rfl) rfl ret0_ok ?_
  simp
  refine CallZ.use0 (c_isTrouble _) rfl rfl ?_
  simp
  refine ⟨fun h => ?_, fun h1 h2 => ?_⟩
  · simp [troubleText]; omega
  · refine CallZ.use0 (c_impl_TroubleName _) rfl rfl ?_
    have := troubleName_len k
    simp [troubleText, h1, h2]
    omega

theorem c_spec_TroubleText (k : Int) (a b : List UInt8) (hl : a.length + b.length ≤ 1048576) : HFn Try.prog 13 [.agg [.int .i64 k, .str a, .str b]] [] (.str (troubleText k a b)) [] := by
  refine hfn_intro hm Try.func13 (by kernel_rfl) rfl (by kernel_rfl) rfl ret0_ok ?_
  simp
  refine CallZ.use0 (c_l31Kind _) rfl rfl ?_
  simp
  refine ⟨fun h => ?_, fun h1 h2 => ?_⟩
  · simp [troubleText]; omega
  · refine CallZ.use c_l31Names rfl (.inl rfl) rfl rfl ?_
    simp
    rcases cases8 h1 h2 with rfl | rfl | rfl | rfl | rfl | rfl | rfl | rfl <;> simp [troubleText, troubleName, troubleNames] <;> omega

theorem c_law_TroubleText (k : Int) (a b : List UInt8) (ha : a.length ≤ 9223372036854775807) (hb : b.length ≤ 9223372036854775807) : HFn Try.prog 4 [.agg [.int .i64 k, .str a, .str b]] [] (.bool true) [] := by
  refine hfn_intro hm Try.func4 (by kernel_rfl) rfl (by kernel_rfl) rfl ret0_ok ?_
  simp
  refine CallZ.use0 (c_szTrouble _ _ _ _ (by omega) (by omega) ha hb) rfl rfl ?_
  simp
  intro h
  have hl : a.length + b.length ≤ 1048576 := by
    unfold szTrouble at h
    split at h
    · omega
    · split at h
      · omega
      · omega
  refine CallZ.use0 (c_toTrouble _ _ _) rfl rfl ?_
  simp
  refine CallZ.use0 (c_spec_TroubleText _ _ _ hl) rfl rfl ?_
  simp
  refine CallZ.use0 (c_toTrouble _ _ _) rfl rfl ?_
  simp
  refine CallZ.use0 (c_impl_TroubleText _ _ _ hl) rfl rfl ?_
  simp
end Go.Proofs.Ytpbpkpghkbcjdaa
