/- Contracts: slices.Clone, Delete, Insert at Pair. -/
import Derived.Test.YtnphmemhejhooaaTy
import Derived.Test.YtnphmemhejhooaaAch
namespace Go.Proofs.Ytnphmemhejhooaa
open Go Go.Ab
set_option maxRecDepth 100000

end Go.Proofs.Ytnphmemhejhooaa
