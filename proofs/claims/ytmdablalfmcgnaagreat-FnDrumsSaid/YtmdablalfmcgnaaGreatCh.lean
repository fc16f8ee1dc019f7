/- Contracts: lists of orders. -/
import Derived.Test.YtmdablalfmcgnaaGreatCf
namespace Go.Proofs.YtmdablalfmcgnaaGreat
open Go Go.Ab
set_option maxRecDepth 100000

end Go.Proofs.YtmdablalfmcgnaaGreat
