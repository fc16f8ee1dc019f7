/- Contracts: the delay of a sequence. -/
import Derived.Test.YtmdablalfmcgnaaGreatCj
namespace Go.Proofs.YtmdablalfmcgnaaGreat
open Go Go.Ab
set_option maxRecDepth 100000

end Go.Proofs.YtmdablalfmcgnaaGreat
