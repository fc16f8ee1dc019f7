/- Contracts: slices.Clone, Delete, Insert at Order. -/
import Derived.Test.YteomgilojaibeaaTy
import Derived.Test.YteomgilojaibeaaAch
namespace Go.Proofs.Yteomgilojaibeaa
open Go Go.Ab
set_option maxRecDepth 100000

end Go.Proofs.Yteomgilojaibeaa
