/- Contracts: slices.Clone, Delete, Insert at Order. -/
import Derived.Test.YtmdablalfmcgnaaDoorTy
import Derived.Test.YtmdablalfmcgnaaDoorAch
namespace Go.Proofs.YtmdablalfmcgnaaDoor
open Go Go.Ab
set_option maxRecDepth 100000

end Go.Proofs.YtmdablalfmcgnaaDoor
