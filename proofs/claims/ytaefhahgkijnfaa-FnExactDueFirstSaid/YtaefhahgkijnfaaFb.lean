/- Contracts of the laws on orders: AddOrder. -/
import Derived.Test.YtaefhahgkijnfaaFa
namespace Go.Proofs.Ytaefhahgkijnfaa
open Go Go.Ab
set_option maxRecDepth 100000

end Go.Proofs.Ytaefhahgkijnfaa

