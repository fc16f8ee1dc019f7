/- Contracts: lists of numbers as text, the reference's side.; Contracts: numbers and lists of numbers as text, the program's side. -/
import Derived.Test.YtaidbadmhepccaaGreatTI
import Derived.Test.YtaidbadmhepccaaGreatBa
import Derived.Lib.ItoaNum
import Derived.Lib.ItoaLen
import Derived.Lib.Join
import Derived.Test.YtaidbadmhepccaaGreatProg
import Derived.Test.YtaidbadmhepccaaGreatKc
import Derived.Lib.Bytealg
import Derived.Laws.Externs
-- from Jb
namespace Go.Proofs.YtaidbadmhepccaaGreat
open Go Go.Ab
set_option maxRecDepth 100000

end Go.Proofs.YtaidbadmhepccaaGreat
-- from Jc
namespace Go.Proofs.YtaidbadmhepccaaGreat
open Go Go.Ab
set_option maxRecDepth 100000

theorem strRows_len (l : List (List UInt8)) : (strRows l).length = l.length := by simp [strRows]
end Go.Proofs.YtaidbadmhepccaaGreat
