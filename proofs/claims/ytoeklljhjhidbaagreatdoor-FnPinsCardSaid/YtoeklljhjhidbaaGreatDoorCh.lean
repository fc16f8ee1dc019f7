/- Contracts: lists of orders. -/
import Derived.Test.YtoeklljhjhidbaaGreatDoorCf
namespace Go.Proofs.YtoeklljhjhidbaaGreatDoor
open Go Go.Ab
set_option maxRecDepth 100000

end Go.Proofs.YtoeklljhjhidbaaGreatDoor
