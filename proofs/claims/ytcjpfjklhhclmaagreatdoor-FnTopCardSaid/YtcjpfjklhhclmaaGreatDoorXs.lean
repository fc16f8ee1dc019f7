/- Contracts: lists of texts that the laws count and lay anew; sums of sizes. No condition. -/
import Derived.Test.YtcjpfjklhhclmaaGreatDoorTI
namespace Go.Proofs.YtcjpfjklhhclmaaGreatDoor
open Go Go.Ab
set_option maxRecDepth 100000

theorem strRows_len (l : List (List UInt8)) : (strRows l).length = l.length := by simp [strRows]
theorem strRows_get (l : List (List UInt8)) {i : Nat} (h : i < (strRows l).length) : (strRows l)[i] = [PV.str (l[i]'(by rw [strRows_len] at h; exact h))] := by simp [strRows]
end Go.Proofs.YtcjpfjklhhclmaaGreatDoor
