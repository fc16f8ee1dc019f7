/- Contracts of the laws on orders: AddOrder. -/
import Derived.Test.YtjeioaeipffifaaGreatDoorFa
namespace Go.Proofs.YtjeioaeipffifaaGreatDoor
open Go Go.Ab
set_option maxRecDepth 100000

end Go.Proofs.YtjeioaeipffifaaGreatDoor

