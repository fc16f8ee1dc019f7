/- Contracts: valid drums. -/
import Derived.Test.YtnfjkfjbhdlphaaGreatDa
import Derived.Test.YtnfjkfjbhdlphaaGreatCm
import Derived.Test.YtnfjkfjbhdlphaaGreatCj
namespace Go.Proofs.YtnfjkfjbhdlphaaGreat
open Go Go.Ab
set_option maxRecDepth 100000


/-- From step k of a hammer to its next, around the drum. -/
def gapAt (s : List Int) (steps : Int) (k : Nat) : Int := (if k + 1 < s.length then s.getD (k + 1) 0 else s.getD 0 0 + steps) - s.getD k 0
def restOk (s : List Int) (steps rest : Int) : Bool := (List.range s.length).all fun k => decide (rest ≤ gapAt s steps k)
def SmallL (s : List Int) : Prop := ∀ x ∈ s, -1000000 ≤ x ∧ x ≤ 1000000

def noteOkAt (l : List Int) (i : Nat) : Bool := decide (0 ≤ l.getD i 0) && decide (l.getD i 0 ≤ 127)
end Go.Proofs.YtnfjkfjbhdlphaaGreat
