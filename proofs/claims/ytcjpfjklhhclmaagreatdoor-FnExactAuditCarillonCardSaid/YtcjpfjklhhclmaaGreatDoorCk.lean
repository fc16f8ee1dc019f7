/- Contracts: the delay of a sequence. Contracts: what Go's library says of order. -/
import Derived.Test.YtcjpfjklhhclmaaGreatDoorCe
import Derived.Test.YtcjpfjklhhclmaaGreatDoorTI
namespace Go.Proofs.YtcjpfjklhhclmaaGreatDoor
open Go Go.Ab
set_option maxRecDepth 100000
theorem qjo (a b : Int) : HFn Tryz.prog 261 [.int .i64 a, .int .i64 b] [] (.int .i64 (max a b)) [] := by
 refine qaa hm Tryz.func261 (by kernel_rfl) rfl (by kernel_rfl) rfl qab ?_
 simp
 omega
end Go.Proofs.YtcjpfjklhhclmaaGreatDoor

namespace Go.Proofs.YtcjpfjklhhclmaaGreatDoor
open Go Go.Ab
set_option maxRecDepth 100000
theorem qjw (a : Int) : HFn Tryz.prog 343 [.int .i64 a] [] (.bool false) [] := by
 refine qaa hm Tryz.func343 (by kernel_rfl) rfl (by kernel_rfl) rfl qab ?_
 simp
def cmpI (a b : Int) : Int := if a < b then -1 else if b < a then 1 else 0
theorem qjx (a b : Int) : HFn Tryz.prog 318 [.int .i64 a, .int .i64 b] [] (.int .i64 (cmpI a b)) [] := by
 refine qaa hm Tryz.func318 (by kernel_rfl) rfl (by kernel_rfl) rfl qab ?_
 simp
 refine CallZ.use0 (qjw _) rfl rfl ?_
 simp
 refine CallZ.use0 (qjw _) rfl rfl ?_
 simp [cmpI]
 grind
def orL : List Int → Int
 | [] => 0
 | x :: r => if x = 0 then orL r else x
theorem qoS (l : List Int) (hl : l.length ≤ 1048576) : HFn Tryz.prog 317 [.sl 1 (qad l)] [] (.int .i64 (orL l)) [] := by
 refine qaa hm Tryz.func317 (by kernel_rfl) rfl (by kernel_rfl) rfl qab ?_
 simp
 refine qac hm l.length (fun i => ⟨[(3, .int .i64 0), (6, .sl 1 (qad l)), (7, .int .i64 l.length), (8, .int .i64 i)], []⟩) (fun i => orL l = orL (l.drop i)) (by kernel_rfl) ?_ (by simp) (fun i hi hI => ?_) (fun hI => ?_)
 · exact Wk.weak (ρ := []) (φ := []) (by simp [qad])
 · rw [List.drop_eq_getElem_cons hi, orL] at hI
   simp [qad, hi]
   refine ⟨fun h => by simp [hI, h], fun h => ⟨by simp [hI, h], ?_⟩⟩
   refine Wk.weak (ρ := []) (φ := []) ?_
   simp
   exact w64 (by omega) (by omega)
 · simp at hI
   simp [hI, orL]
end Go.Proofs.YtcjpfjklhhclmaaGreatDoor
