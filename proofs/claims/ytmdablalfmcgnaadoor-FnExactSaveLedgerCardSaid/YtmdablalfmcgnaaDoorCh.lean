/- Contracts: lists of orders. -/
import Derived.Test.YtmdablalfmcgnaaDoorCf
namespace Go.Proofs.YtmdablalfmcgnaaDoor
open Go Go.Ab
set_option maxRecDepth 100000

end Go.Proofs.YtmdablalfmcgnaaDoor
