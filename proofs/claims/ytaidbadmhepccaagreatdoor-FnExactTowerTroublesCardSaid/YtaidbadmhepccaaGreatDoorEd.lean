/- Contracts: slices.BinarySearchFunc.; Contracts: an order's place in a list.; Contracts: an order is removed. -/
import Derived.Test.YtaidbadmhepccaaGreatDoorCe
import Derived.Test.YtaidbadmhepccaaGreatDoorTI
import Derived.Test.YtaidbadmhepccaaGreatDoorCm
import Derived.Test.YtaidbadmhepccaaGreatDoorTy
import Derived.Test.YtaidbadmhepccaaGreatDoorKc
import Derived.Lib.Overlaps
import Derived.Laws.Externs
-- from Eb
namespace Go.Proofs.YtaidbadmhepccaaGreatDoor
open Go Go.Ab
set_option maxRecDepth 100000

/-- Where what is less ends, if all that is less lies ahead. -/
structure Cut (n : Nat) (c : Nat → Int) (p : Nat) : Prop where
  le : p ≤ n
  lo : ∀ i, i < p → c i < 0
  hi : ∀ i, p ≤ i → i < n → 0 ≤ c i

end Go.Proofs.YtaidbadmhepccaaGreatDoor
-- from Ec
namespace Go.Proofs.YtaidbadmhepccaaGreatDoor
open Go Go.Ab
set_option maxRecDepth 100000

end Go.Proofs.YtaidbadmhepccaaGreatDoor
-- from Ed
namespace Go.Proofs.YtaidbadmhepccaaGreatDoor
open Go Go.Ab
set_option maxRecDepth 100000

end Go.Proofs.YtaidbadmhepccaaGreatDoor
