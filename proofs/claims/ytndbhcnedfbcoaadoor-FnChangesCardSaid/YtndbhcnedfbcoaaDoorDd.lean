/- Contracts: the busiest step of a drum.; Contracts: the steps of a hammer, in own memory. -/
import Derived.Test.YtndbhcnedfbcoaaDoorDb
-- from Dc
namespace Go.Proofs.YtndbhcnedfbcoaaDoor
open Go Go.Ab
set_option maxRecDepth 100000

/-! ### The plain law -/
end Go.Proofs.YtndbhcnedfbcoaaDoor
-- from Dd
namespace Go.Proofs.YtndbhcnedfbcoaaDoor
open Go Go.Ab
set_option maxRecDepth 100000


end Go.Proofs.YtndbhcnedfbcoaaDoor
