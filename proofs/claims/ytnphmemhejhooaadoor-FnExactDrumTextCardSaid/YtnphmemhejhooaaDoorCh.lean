/- Contracts: lists of orders. -/
import Derived.Test.YtnphmemhejhooaaDoorCf
namespace Go.Proofs.YtnphmemhejhooaaDoor
open Go Go.Ab
set_option maxRecDepth 100000

/-- Order i of a list is valid, and stands behind the one before it. -/
def orderAt (l : List Order) (i : Nat) : Bool := match l[i]? with
  | some x => validOrder x && (decide (i = 0) || match l[i - 1]? with
    | some y => Op.bytesLess y.id x.id
    | none => true)
  | none => true
def validOrders (l : List Order) : Bool := (List.range l.length).all (orderAt l) && decide ((l.length : Int) ≤ 12)

end Go.Proofs.YtnphmemhejhooaaDoor
