/- Contracts: slices.Clone, Delete, Insert at Order. -/
import Derived.Test.YtoeklljhjhidbaaGreatDoorTy
import Derived.Test.YtoeklljhjhidbaaGreatDoorAch
namespace Go.Proofs.YtoeklljhjhidbaaGreatDoor
open Go Go.Ab
set_option maxRecDepth 100000

end Go.Proofs.YtoeklljhjhidbaaGreatDoor
