/- Contracts: what Go's library says of order. -/
import Derived.Test.YtoeklljhjhidbaaGreatDoorTI
namespace Go.Proofs.YtoeklljhjhidbaaGreatDoor
open Go Go.Ab
set_option maxRecDepth 100000

theorem c_isNaNInt [Go.Ab.Drwn] (a : Int) : HFn Tryz.prog 82 [.int .i64 a] [] (.bool false) [] := by
  refine hfn_intro hm Tryz.func82 (by kernel_rfl) rfl (by kernel_rfl) rfl ret0_ok ?_
  simp

theorem c_LessInt [Go.Ab.Drwn] (a b : Int) : HFn Tryz.prog 71 [.int .i64 a, .int .i64 b] [] (.bool (decide (a < b))) [] := by
  refine hfn_intro hm Tryz.func71 (by kernel_rfl) rfl (by kernel_rfl) rfl ret0_ok ?_
  simp
  refine CallZ.use0 (c_isNaNInt _) rfl rfl ?_
  simp
  refine CallY.use (fun _ => ⟨rfl, c_isNaNInt _⟩) rfl rfl ?_
  simp

/-- What cmp.Compare says. -/
def cmpI (a b : Int) : Int := if a < b then -1 else if b < a then 1 else 0
theorem c_CompareInt [Go.Ab.Drwn] (a b : Int) : HFn Tryz.prog 53 [.int .i64 a, .int .i64 b] [] (.int .i64 (cmpI a b)) [] := by
  refine hfn_intro hm Tryz.func53 (by kernel_rfl) rfl (by kernel_rfl) rfl ret0_ok ?_
  simp
  refine CallZ.use0 (c_isNaNInt _) rfl rfl ?_
  simp
  refine CallZ.use0 (c_isNaNInt _) rfl rfl ?_
  simp [cmpI]
  grind

/-- The first number that is not 0. -/
def orL : List Int → Int
  | [] => 0
  | x :: r => if x = 0 then orL r else x
theorem c_OrInt [Go.Ab.Drwn] (l : List Int) (hl : l.length ≤ 1048576) : HFn Tryz.prog 52 [.sl 1 (intRows l)] [] (.int .i64 (orL l)) [] := by
  refine hfn_intro hm Tryz.func52 (by kernel_rfl) rfl (by kernel_rfl) rfl ret0_ok ?_
  simp
  refine loop_upto hm l.length (fun i => ⟨[(3, .int .i64 0), (6, .sl 1 (intRows l)), (7, .int .i64 l.length), (8, .int .i64 i)], []⟩) (fun i => orL l = orL (l.drop i)) (by kernel_rfl) ?_ (by simp) (fun i hi hI => ?_) (fun hI => ?_)
  · exact Wk.weak (ρ := []) (φ := []) (by simp [intRows])
  · rw [List.drop_eq_getElem_cons hi, orL] at hI
    simp [intRows, hi]
    refine ⟨fun h => by simp [hI, h], fun h => ⟨by simp [hI, h], ?_⟩⟩
    refine Wk.weak (ρ := []) (φ := []) ?_
    simp
    exact w64 (by omega) (by omega)
  · simp at hI
    simp [hI, orL]

/-- No number is less than the one before. -/
def sortedAt (l : List Int) (i : Nat) : Bool := decide (i = 0) || decide (l.getD (i - 1) 0 ≤ l.getD i 0)
def sortedI (l : List Int) : Bool := (List.range l.length).all (sortedAt l)
theorem c_IsSortedInt [Go.Ab.Drwn] (l : List Int) (hl : l.length ≤ 1048576) : HFn Tryz.prog 46 [.sl 1 (intRows l)] [] (.bool (sortedI l)) [] := by
  refine hfn_intro hm Tryz.func46 (by kernel_rfl) rfl (by kernel_rfl) rfl ret0_ok ?_
  simp
  refine loop_upto hm (l.length - 1) (fun i => ⟨[(0, .sl 1 (intRows l)), (3, .int .i64 ((l.length : Int) - 1 - i))], []⟩) (fun i => ∀ j, l.length - i ≤ j → j < l.length → sortedAt l j = true) (by kernel_rfl) ?_ (fun j h1 h2 => by omega) (fun i hi hI => ?_) (fun hI => ?_)
  · refine Wk.weak (ρ := []) (φ := []) ?_
    simp [intRows]
    exact w64 (by omega) (by omega)
  · obtain ⟨k, hk⟩ : ∃ k, k = l.length - 1 - i := ⟨_, rfl⟩
    have ek : (l.length : Int) - 1 - i = (k : Int) := by omega
    have ek1 : IntKind.i64.wrap ((k : Int) - 1) = ((k - 1 : Nat) : Int) := by rw [w64 (by omega) (by omega)]; omega
    have k0 : 0 < k := by omega
    have kl : k < l.length := by omega
    have kl1 : k - 1 < l.length := by omega
    rw [ek]
    simp [intRows, k0, kl, ek1, kl1]
    refine CallZ.use0 (c_LessInt _ _) rfl rfl ?_
    simp
    refine ⟨fun h => ?_, fun h => ⟨fun j h1 h2 => ?_, ?_⟩⟩
    · refine all_range_false kl ?_
      simp [sortedAt, kl, kl1]
      omega
    · by_cases e : j = k
      · subst e
        simp [sortedAt, kl, kl1]
        omega
      · exact hI j (by omega) h2
    · refine Wk.weak (ρ := []) (φ := []) ?_
      simp
      omega
  · have : ∀ j, j < l.length → sortedAt l j = true := fun j hj => by
      by_cases e : j = 0
      · simp [sortedAt, e]
      · exact hI j (by omega) hj
    rw [sortedI, all_range_true this]
    simp
    intro h
    omega
end Go.Proofs.YtoeklljhjhidbaaGreatDoor
