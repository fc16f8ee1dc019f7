/- Contracts: what Go's library says of order. -/
import Derived.Test.YtndbhcnedfbcoaaDoorTI
namespace Go.Proofs.YtndbhcnedfbcoaaDoor
open Go Go.Ab
set_option maxRecDepth 100000

theorem c_isNaNInt (a : Int) : HFn Tryd.prog 71 [.int .i64 a] [] (.bool false) [] := by
  refine hfn_intro hm Tryd.func71 (by kernel_rfl) rfl (by kernel_rfl) rfl ret0_ok ?_
  simp

theorem c_LessInt (a b : Int) : HFn Tryd.prog 57 [.int .i64 a, .int .i64 b] [] (.bool (decide (a < b))) [] := by
  refine hfn_intro hm Tryd.func57 (by kernel_rfl) rfl (by kernel_rfl) rfl ret0_ok ?_
  simp
  refine CallZ.use0 (c_isNaNInt _) rfl rfl ?_
  simp
  refine CallY.use (fun _ => ⟨rfl, c_isNaNInt _⟩) rfl rfl ?_
  simp

/-- What cmp.Compare says. -/
def cmpI (a b : Int) : Int := if a < b then -1 else if b < a then 1 else 0
/-- The first number that is not 0. -/
def orL : List Int → Int
  | [] => 0
  | x :: r => if x = 0 then orL r else x
/-- No number is less than the one before. -/
def sortedAt (l : List Int) (i : Nat) : Bool := decide (i = 0) || decide (l.getD (i - 1) 0 ≤ l.getD i 0)
def sortedI (l : List Int) : Bool := (List.range l.length).all (sortedAt l)
end Go.Proofs.YtndbhcnedfbcoaaDoor
