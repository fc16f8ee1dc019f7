/- Contracts: slices.Clone, Delete, Insert at Order. -/
import Derived.Test.YtmdablalfmcgnaaGreatTy
import Derived.Test.YtmdablalfmcgnaaGreatAch
namespace Go.Proofs.YtmdablalfmcgnaaGreat
open Go Go.Ab
set_option maxRecDepth 100000

end Go.Proofs.YtmdablalfmcgnaaGreat
