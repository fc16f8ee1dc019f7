/- Contracts: equal lists of records and of orders; valid records. -/
import Derived.Test.YteomgilojaibeaaCf
import Derived.Test.YteomgilojaibeaaTRecord
namespace Go.Proofs.Yteomgilojaibeaa
open Go Go.Ab
set_option maxRecDepth 100000

/-! ### The same records -/

/-! ### The same orders -/

/-! ### Valid records -/

def remarkB (b : UInt8) : Bool := decide ((32 : Int) ≤ b.toNat) && decide ((b.toNat : Int) ≤ 126)
def isRemark (s : List UInt8) : Bool := decide ((s.length : Int) ≤ 60) && s.all remarkB

def validRecord (r : Record) : Bool :=
  if r.kind = 1 then isName r.key && isRemark r.text
  else if r.kind = 2 then isName r.key && decide (r.text = [])
  else decide (r.kind = 3) && decide (r.key = []) && decide (r.text = [])

end Go.Proofs.Yteomgilojaibeaa
