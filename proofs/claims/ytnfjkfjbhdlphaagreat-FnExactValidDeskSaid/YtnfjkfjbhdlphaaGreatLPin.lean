/- Contracts: slices.Clone, Delete, Insert at Pin. -/
import Derived.Test.YtnfjkfjbhdlphaaGreatTy
import Derived.Test.YtnfjkfjbhdlphaaGreatAch
namespace Go.Proofs.YtnfjkfjbhdlphaaGreat
open Go Go.Ab
set_option maxRecDepth 100000

end Go.Proofs.YtnfjkfjbhdlphaaGreat
