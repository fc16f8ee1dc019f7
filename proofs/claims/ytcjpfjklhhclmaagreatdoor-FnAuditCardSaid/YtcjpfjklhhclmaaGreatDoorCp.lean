/- Contracts: texts of troubles, the program's side. -/
import Derived.Test.YtcjpfjklhhclmaaGreatDoorCe
namespace Go.Proofs.YtcjpfjklhhclmaaGreatDoor
open Go Go.Ab
set_option maxRecDepth 100000

def troubleText (k : Int) (a b : List UInt8) : List UInt8 := if 1 ≤ k ∧ k ≤ 8 then troubleName k ++ [32] ++ a ++ [32] ++ b else []

theorem troubleName_len (n : Int) : (troubleName n).length ≤ 5 := by
  unfold troubleName
  split
  · rename_i h
    rcases cases8 h.1 h.2 with rfl | rfl | rfl | rfl | rfl | rfl | rfl | rfl <;> simp [troubleNames]
  · simp

theorem c_impl_TroubleText (k : Int) (a b : List UInt8) (hl : a.length + b.length ≤ 1048576) : HFn Tryz.prog 21 [.agg [.int .i64 k, .str a, .str b]] [] (.str (troubleText k a b)) [] := by
  refine hfn_intro hm Tryz.func21 (by kernel_rfl) rfl (by kernel_rfl) rfl ret0_ok ?_
  simp
  refine CallZ.use0 (c_isTrouble _) rfl rfl ?_
  simp
  refine ⟨fun h => ?_, fun h1 h2 => ?_⟩
  · simp [troubleText]; omega
  · refine CallZ.use0 (c_impl_TroubleName _) rfl rfl ?_
    have := troubleName_len k
    simp [troubleText, h1, h2]
    omega

end Go.Proofs.YtcjpfjklhhclmaaGreatDoor
