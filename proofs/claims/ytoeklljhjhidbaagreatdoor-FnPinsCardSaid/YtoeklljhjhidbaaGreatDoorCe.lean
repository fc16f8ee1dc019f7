/- Contracts: names, numbers in bounds. -/
import Derived.Test.YtoeklljhjhidbaaGreatDoorKc
import Derived.Test.YtoeklljhjhidbaaGreatDoorCa
namespace Go.Proofs.YtoeklljhjhidbaaGreatDoor
open Go Go.Ab
set_option maxRecDepth 100000

/-! ### Names -/

def isSmall (b : UInt8) : Bool := decide ((97 : Int) ≤ b.toNat) && decide ((b.toNat : Int) ≤ 122)
def isDigit (b : UInt8) : Bool := decide ((48 : Int) ≤ b.toNat) && decide ((b.toNat : Int) ≤ 57)
/-- Byte i of a name. -/
def nameAt (s : List UInt8) (i : Nat) : Bool := isSmall (s.getD i 0) || (decide (i ≠ 0) && isDigit (s.getD i 0))
def isName (s : List UInt8) : Bool := decide (1 ≤ s.length) && decide (s.length ≤ 10) && (List.range s.length).all (nameAt s)

end Go.Proofs.YtoeklljhjhidbaaGreatDoor
