/- Contracts: marks that the laws write, and lists of strings. -/
import Derived.Test.YtcjpfjklhhclmaaGreatDoorTy
import Derived.Test.YtcjpfjklhhclmaaGreatDoorKc
import Derived.Test.YtcjpfjklhhclmaaGreatDoorAby
namespace Go.Proofs.YtcjpfjklhhclmaaGreatDoor
open Go Go.Ab
set_option maxRecDepth 100000

/-- A list of strings, as rows. -/
def strRows (l : List (List UInt8)) : List (List PV) := l.map fun s => [.str s]

end Go.Proofs.YtcjpfjklhhclmaaGreatDoor
