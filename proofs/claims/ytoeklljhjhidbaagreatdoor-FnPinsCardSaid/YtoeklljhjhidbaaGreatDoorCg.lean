/- Contracts: equal lists of records and of orders; valid records. -/
import Derived.Test.YtoeklljhjhidbaaGreatDoorCf
namespace Go.Proofs.YtoeklljhjhidbaaGreatDoor
open Go Go.Ab
set_option maxRecDepth 100000

/-! ### The same records -/

/-! ### The same orders -/

/-! ### Valid records -/

def remarkB (b : UInt8) : Bool := decide ((32 : Int) ≤ b.toNat) && decide ((b.toNat : Int) ≤ 126)
def isRemark (s : List UInt8) : Bool := decide ((s.length : Int) ≤ 60) && s.all remarkB

end Go.Proofs.YtoeklljhjhidbaaGreatDoor
