/- Contracts: slices.Clone, Delete, Insert at Order. -/
import Derived.Test.YtnphmemhejhooaaTy
import Derived.Test.YtnphmemhejhooaaAch
namespace Go.Proofs.Ytnphmemhejhooaa
open Go Go.Ab
set_option maxRecDepth 100000

end Go.Proofs.Ytnphmemhejhooaa
