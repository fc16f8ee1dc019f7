/- Contracts: orders. -/
import Derived.Test.YtndbhcnedfbcoaaDoorCe
namespace Go.Proofs.YtndbhcnedfbcoaaDoor
open Go Go.Ab
set_option maxRecDepth 100000

end Go.Proofs.YtndbhcnedfbcoaaDoor
