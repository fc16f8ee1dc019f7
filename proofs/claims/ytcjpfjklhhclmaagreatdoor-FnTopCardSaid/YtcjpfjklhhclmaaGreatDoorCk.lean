/- Contracts: the delay of a sequence. Contracts: what Go's library says of order. -/
import Derived.Test.YtcjpfjklhhclmaaGreatDoorCe
import Derived.Test.YtcjpfjklhhclmaaGreatDoorTI
namespace Go.Proofs.YtcjpfjklhhclmaaGreatDoor
open Go Go.Ab
set_option maxRecDepth 100000

theorem c_l00Max (a b : Int) : HFn Tryz.prog 261 [.int .i64 a, .int .i64 b] [] (.int .i64 (max a b)) [] := by
  refine hfn_intro hm Tryz.func261 (by kernel_rfl) rfl (by kernel_rfl) rfl ret0_ok ?_
  simp
  omega

end Go.Proofs.YtcjpfjklhhclmaaGreatDoor

namespace Go.Proofs.YtcjpfjklhhclmaaGreatDoor
open Go Go.Ab
set_option maxRecDepth 100000

theorem c_isNaNInt (a : Int) : HFn Tryz.prog 343 [.int .i64 a] [] (.bool false) [] := by
  refine hfn_intro hm Tryz.func343 (by kernel_rfl) rfl (by kernel_rfl) rfl ret0_ok ?_
  simp

/-- What cmp.Compare says. -/
def cmpI (a b : Int) : Int := if a < b then -1 else if b < a then 1 else 0
theorem c_CompareInt (a b : Int) : HFn Tryz.prog 318 [.int .i64 a, .int .i64 b] [] (.int .i64 (cmpI a b)) [] := by
  refine hfn_intro hm Tryz.func318 (by kernel_rfl) rfl (by kernel_rfl) rfl ret0_ok ?_
  simp
  refine CallZ.use0 (c_isNaNInt _) rfl rfl ?_
  simp
  refine CallZ.use0 (c_isNaNInt _) rfl rfl ?_
  simp [cmpI]
  grind

/-- The first number that is not 0. -/
def orL : List Int → Int
  | [] => 0
  | x :: r => if x = 0 then orL r else x
theorem c_OrInt (l : List Int) (hl : l.length ≤ 1048576) : HFn Tryz.prog 317 [.sl 1 (intRows l)] [] (.int .i64 (orL l)) [] := by
  refine hfn_intro hm Tryz.func317 (by kernel_rfl) rfl (by kernel_rfl) rfl ret0_ok ?_
  simp
  refine loop_upto hm l.length (fun i => ⟨[(3, .int .i64 0), (6, .sl 1 (intRows l)), (7, .int .i64 l.length), (8, .int .i64 i)], []⟩) (fun i => orL l = orL (l.drop i)) (by kernel_rfl) ?_ (by simp) (fun i hi hI => ?_) (fun hI => ?_)
  · exact Wk.weak (ρ := []) (φ := []) (by simp [intRows])
  · rw [List.drop_eq_getElem_cons hi, orL] at hI
    simp [intRows, hi]
    refine ⟨fun h => by simp [hI, h], fun h => ⟨by simp [hI, h], ?_⟩⟩
    refine Wk.weak (ρ := []) (φ := []) ?_
    simp
    exact w64 (by omega) (by omega)
  · simp at hI
    simp [hI, orL]

end Go.Proofs.YtcjpfjklhhclmaaGreatDoor
