/- Contracts: lists of numbers as text, the reference's side.; Contracts: numbers and lists of numbers as text, the program's side. -/
import Derived.Test.YtaidbadmhepccaaGreatDoorTI
import Derived.Test.YtaidbadmhepccaaGreatDoorBa
import Derived.Lib.ItoaNum
import Derived.Lib.ItoaLen
import Derived.Lib.Join
import Derived.Shelf.Small.Bits
import Derived.Shelf.Strconv.Itoa0
import Derived.Shelf.Strconv.Itoa1
import Derived.Shelf.LaysM
import Derived.Shelf.Strconv.Itoa2
import Derived.Shelf.Strconv.Itoa3
import Derived.Shelf.Strconv.Itoa4
import Derived.Ground.SlgnProg
import Derived.Shelf.SlicesG.CompactI
import Derived.Shelf.SlicesG.Cells
import Derived.Ground.SlgmProg
import Derived.Shelf.SortM.Plain
import Derived.Shelf.SortM.SortNone
import Derived.Test.YtaidbadmhepccaaGreatDoorProg
import Derived.Test.YtaidbadmhepccaaGreatDoorKc
import Derived.Lib.Bytealg
import Derived.Laws.Externs
-- from Jb
namespace Go.Proofs.YtaidbadmhepccaaGreatDoor
open Go Go.Ab
set_option maxRecDepth 100000

end Go.Proofs.YtaidbadmhepccaaGreatDoor
-- from Jc
namespace Go.Proofs.YtaidbadmhepccaaGreatDoor
open Go Go.Ab
set_option maxRecDepth 100000

theorem strRows_len (l : List (List UInt8)) : (strRows l).length = l.length := by simp [strRows]
end Go.Proofs.YtaidbadmhepccaaGreatDoor
