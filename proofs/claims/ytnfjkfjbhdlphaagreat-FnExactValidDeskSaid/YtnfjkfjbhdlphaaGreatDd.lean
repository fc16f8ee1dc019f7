/- Contracts: the busiest step of a drum.; Contracts: the steps of a hammer, in own memory. -/
import Derived.Test.YtnfjkfjbhdlphaaGreatDb
-- from Dc
namespace Go.Proofs.YtnfjkfjbhdlphaaGreat
open Go Go.Ab
set_option maxRecDepth 100000

/-! ### The plain law -/
end Go.Proofs.YtnfjkfjbhdlphaaGreat
-- from Dd
namespace Go.Proofs.YtnfjkfjbhdlphaaGreat
open Go Go.Ab
set_option maxRecDepth 100000


end Go.Proofs.YtnfjkfjbhdlphaaGreat
