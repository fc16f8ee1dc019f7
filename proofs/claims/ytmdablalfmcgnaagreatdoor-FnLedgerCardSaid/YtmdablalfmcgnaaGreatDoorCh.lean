/- Contracts: lists of orders. -/
import Derived.Test.YtmdablalfmcgnaaGreatDoorCf
namespace Go.Proofs.YtmdablalfmcgnaaGreatDoor
open Go Go.Ab
set_option maxRecDepth 100000

end Go.Proofs.YtmdablalfmcgnaaGreatDoor
