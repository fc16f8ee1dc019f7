/- Contracts: slices.Clone, Delete, Insert at Order. -/
import Derived.Test.YtmdablalfmcgnaaGreatDoorTy
import Derived.Test.YtmdablalfmcgnaaGreatDoorAch
namespace Go.Proofs.YtmdablalfmcgnaaGreatDoor
open Go Go.Ab
set_option maxRecDepth 100000

end Go.Proofs.YtmdablalfmcgnaaGreatDoor
