/- Contracts: slices.Clone, Delete, Insert at Order. -/
import Derived.Test.YtndbhcnedfbcoaaDoorTy
import Derived.Test.YtndbhcnedfbcoaaDoorAch
namespace Go.Proofs.YtndbhcnedfbcoaaDoor
open Go Go.Ab
set_option maxRecDepth 100000

end Go.Proofs.YtndbhcnedfbcoaaDoor
