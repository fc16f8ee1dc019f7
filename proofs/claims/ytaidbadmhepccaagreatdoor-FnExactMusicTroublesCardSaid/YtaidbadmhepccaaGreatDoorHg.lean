/- Contracts: slices.BinarySearchFunc.; Contracts: an order's place in a list.; Contracts: an order is removed. Contracts: the active ones of records.; Contracts: keys of a state.; Contracts: the state after records: one step.; Contracts: the state after records, and whether a record can follow.; Contracts: the state after records, as the other side computes it.; Contracts: whether a record can follow others, and whether records are a ledger.; Contracts: a ledger's active records, its states, and what is added to it. -/
import Derived.Test.YtaidbadmhepccaaGreatDoorCe
import Derived.Test.YtaidbadmhepccaaGreatDoorTI
import Derived.Test.YtaidbadmhepccaaGreatDoorCm
import Derived.Test.YtaidbadmhepccaaGreatDoorTy
import Derived.Test.YtaidbadmhepccaaGreatDoorKc
import Derived.Lib.Overlaps
import Derived.Laws.Externs
import Derived.Test.YtaidbadmhepccaaGreatDoorAcj
-- from Eb
namespace Go.Proofs.YtaidbadmhepccaaGreatDoor
open Go Go.Ab
set_option maxRecDepth 100000

/-- Where what is less ends, if all that is less lies ahead. -/
structure Cut (n : Nat) (c : Nat → Int) (p : Nat) : Prop where
  le : p ≤ n
  lo : ∀ i, i < p → c i < 0
  hi : ∀ i, p ≤ i → i < n → 0 ≤ c i

end Go.Proofs.YtaidbadmhepccaaGreatDoor
-- from Ec
namespace Go.Proofs.YtaidbadmhepccaaGreatDoor
open Go Go.Ab
set_option maxRecDepth 100000

end Go.Proofs.YtaidbadmhepccaaGreatDoor
-- from Ed
namespace Go.Proofs.YtaidbadmhepccaaGreatDoor
open Go Go.Ab
set_option maxRecDepth 100000

end Go.Proofs.YtaidbadmhepccaaGreatDoor

-- from Ha
namespace Go.Proofs.YtaidbadmhepccaaGreatDoor
open Go Go.Ab
set_option maxRecDepth 100000

theorem intRows_app (a b : List Int) : intRows (a ++ b) = intRows a ++ intRows b := by simp [intRows]
end Go.Proofs.YtaidbadmhepccaaGreatDoor
-- from Hb
namespace Go.Proofs.YtaidbadmhepccaaGreatDoor
open Go Go.Ab
set_option maxRecDepth 100000

/-! ### States: keys in order -/
end Go.Proofs.YtaidbadmhepccaaGreatDoor
-- from Hc
namespace Go.Proofs.YtaidbadmhepccaaGreatDoor
open Go Go.Ab
set_option maxRecDepth 100000

end Go.Proofs.YtaidbadmhepccaaGreatDoor
-- from Hd
namespace Go.Proofs.YtaidbadmhepccaaGreatDoor
open Go Go.Ab
set_option maxRecDepth 100000

end Go.Proofs.YtaidbadmhepccaaGreatDoor
-- from He
namespace Go.Proofs.YtaidbadmhepccaaGreatDoor
open Go Go.Ab
set_option maxRecDepth 100000

theorem intRows_get (S : List Int) {i : Nat} (h : i < (intRows S).length) : (intRows S)[i] = [.int .i64 (S[i]'(by rw [intRows_len] at h; exact h))] := by simp [intRows]

end Go.Proofs.YtaidbadmhepccaaGreatDoor
-- from Hf
namespace Go.Proofs.YtaidbadmhepccaaGreatDoor
open Go Go.Ab
set_option maxRecDepth 100000

end Go.Proofs.YtaidbadmhepccaaGreatDoor
-- from Hg
namespace Go.Proofs.YtaidbadmhepccaaGreatDoor
open Go Go.Ab
set_option maxRecDepth 100000

end Go.Proofs.YtaidbadmhepccaaGreatDoor
