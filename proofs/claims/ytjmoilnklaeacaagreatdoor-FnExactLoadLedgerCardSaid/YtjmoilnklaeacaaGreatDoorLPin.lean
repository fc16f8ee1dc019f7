/- Contracts: slices.Clone, Delete, Insert at Pin. -/
import Derived.Test.YtjmoilnklaeacaaGreatDoorTy
import Derived.Test.YtjmoilnklaeacaaGreatDoorAch
namespace Go.Proofs.YtjmoilnklaeacaaGreatDoor
open Go Go.Ab
set_option maxRecDepth 100000

end Go.Proofs.YtjmoilnklaeacaaGreatDoor
