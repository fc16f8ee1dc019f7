/- Contracts: slices.Clone, Delete, Insert at Order. -/
import Derived.Test.YtaefhahgkijnfaaTy
import Derived.Test.YtaefhahgkijnfaaAch
namespace Go.Proofs.Ytaefhahgkijnfaa
open Go Go.Ab
set_option maxRecDepth 100000

end Go.Proofs.Ytaefhahgkijnfaa
