/- Contracts: lists of orders. -/
import Derived.Test.YtndbhcnedfbcoaaDoorCf
namespace Go.Proofs.YtndbhcnedfbcoaaDoor
open Go Go.Ab
set_option maxRecDepth 100000

end Go.Proofs.YtndbhcnedfbcoaaDoor
