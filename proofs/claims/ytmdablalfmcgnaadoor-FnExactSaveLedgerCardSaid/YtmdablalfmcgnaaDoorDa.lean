/- Contracts: drums. -/
import Derived.Test.YtmdablalfmcgnaaDoorCg
import Derived.Test.YtmdablalfmcgnaaDoorTI
namespace Go.Proofs.YtmdablalfmcgnaaDoor
open Go Go.Ab
set_option maxRecDepth 100000

end Go.Proofs.YtmdablalfmcgnaaDoor
