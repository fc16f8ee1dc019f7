/- Contracts: the busiest step of a drum.; Contracts: the steps of a hammer, in own memory. -/
import Derived.Test.YtmdablalfmcgnaaDoorDb
-- from Dc
namespace Go.Proofs.YtmdablalfmcgnaaDoor
open Go Go.Ab
set_option maxRecDepth 100000

/-! ### The plain law -/
end Go.Proofs.YtmdablalfmcgnaaDoor
-- from Dd
namespace Go.Proofs.YtmdablalfmcgnaaDoor
open Go Go.Ab
set_option maxRecDepth 100000


end Go.Proofs.YtmdablalfmcgnaaDoor
