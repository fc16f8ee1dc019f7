/- Contracts: drums. -/
import Derived.Test.YtndbhcnedfbcoaaDoorCg
import Derived.Test.YtndbhcnedfbcoaaDoorTI
namespace Go.Proofs.YtndbhcnedfbcoaaDoor
open Go Go.Ab
set_option maxRecDepth 100000

end Go.Proofs.YtndbhcnedfbcoaaDoor
