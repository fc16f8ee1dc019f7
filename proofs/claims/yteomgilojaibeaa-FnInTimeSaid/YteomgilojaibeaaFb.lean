/- Contracts of the laws on orders: AddOrder. -/
import Derived.Test.YteomgilojaibeaaFa
namespace Go.Proofs.Yteomgilojaibeaa
open Go Go.Ab
set_option maxRecDepth 100000

end Go.Proofs.Yteomgilojaibeaa

