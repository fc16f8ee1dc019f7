/- Contracts: what Go's library says of order. -/
import Derived.Test.YtaidbadmhepccaaGreatDoorTI
namespace Go.Proofs.YtaidbadmhepccaaGreatDoor
open Go Go.Ab
set_option maxRecDepth 100000

theorem c_isNaNInt (a : Int) : HFn Tryz.prog 313 [.int .i64 a] [] (.bool false) [] := by
  refine hfn_intro hm Tryz.func313 (by kernel_rfl) rfl (by kernel_rfl) rfl ret0_ok ?_
  simp

/-- What cmp.Compare says. -/
def cmpI (a b : Int) : Int := if a < b then -1 else if b < a then 1 else 0
theorem c_CompareInt (a b : Int) : HFn Tryz.prog 280 [.int .i64 a, .int .i64 b] [] (.int .i64 (cmpI a b)) [] := by
  refine hfn_intro hm Tryz.func280 (by kernel_rfl) rfl (by kernel_rfl) rfl ret0_ok ?_
  simp
  refine CallZ.use0 (c_isNaNInt _) rfl rfl ?_
  simp
  refine CallZ.use0 (c_isNaNInt _) rfl rfl ?_
  simp [cmpI]
  grind

/-- The first number that is not 0. -/
def orL : List Int → Int
  | [] => 0
  | x :: r => if x = 0 then orL r else x
theorem c_OrInt (l : List Int) (hl : l.length ≤ 1048576) : HFn Tryz.prog 279 [.sl 1 (intRows l)] [] (.int .i64 (orL l)) [] := by
  refine hfn_intro hm Tryz.func279 (by kernel_rfl) rfl (by kernel_rfl) rfl ret0_ok ?_
  simp
  refine loop_upto hm l.length (fun i => ⟨[(3, .int .i64 0), (6, .sl 1 (intRows l)), (7, .int .i64 l.length), (8, .int .i64 i)], []⟩) (fun i => orL l = orL (l.drop i)) (by kernel_rfl) ?_ (by simp) (fun i hi hI => ?_) (fun hI => ?_)
  · exact Wk.weak (ρ := []) (φ := []) (by simp [intRows])
  · rw [List.drop_eq_getElem_cons hi, orL] at hI
    simp [intRows, hi]
    refine ⟨fun h => by simp [hI, h], fun h => ⟨by simp [hI, h], ?_⟩⟩
    refine Wk.weak (ρ := []) (φ := []) ?_
    simp
    exact w64 (by omega) (by omega)
  · simp at hI
    simp [hI, orL]

end Go.Proofs.YtaidbadmhepccaaGreatDoor
