/- Contracts: drums. -/
import Derived.Test.YtnfjkfjbhdlphaaGreatCg
import Derived.Test.YtnfjkfjbhdlphaaGreatTI
namespace Go.Proofs.YtnfjkfjbhdlphaaGreat
open Go Go.Ab
set_option maxRecDepth 100000

end Go.Proofs.YtnfjkfjbhdlphaaGreat
