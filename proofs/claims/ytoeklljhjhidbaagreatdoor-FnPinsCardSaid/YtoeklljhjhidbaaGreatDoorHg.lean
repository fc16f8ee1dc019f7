/- Contracts: the active ones of records.; Contracts: keys of a state.; Contracts: the state after records: one step.; Contracts: the state after records, and whether a record can follow.; Contracts: the state after records, as the other side computes it.; Contracts: whether a record can follow others, and whether records are a ledger.; Contracts: a ledger's active records, its states, and what is added to it. -/
import Derived.Test.YtoeklljhjhidbaaGreatDoorCg
import Derived.Test.YtoeklljhjhidbaaGreatDoorFe
import Derived.Test.YtoeklljhjhidbaaGreatDoorAcj
import Derived.Test.YtoeklljhjhidbaaGreatDoorEd
import Derived.Test.YtoeklljhjhidbaaGreatDoorLPair
-- from Ha
namespace Go.Proofs.YtoeklljhjhidbaaGreatDoor
open Go Go.Ab
set_option maxRecDepth 100000

theorem intRows_app (a b : List Int) : intRows (a ++ b) = intRows a ++ intRows b := by simp [intRows]
theorem intRows_take (a : List Int) (n : Nat) : intRows (a.take n) = (intRows a).take n := by simp [intRows]

end Go.Proofs.YtoeklljhjhidbaaGreatDoor
-- from Hb
namespace Go.Proofs.YtoeklljhjhidbaaGreatDoor
open Go Go.Ab
set_option maxRecDepth 100000

theorem cmpBytes_eq : ∀ (a b : List UInt8), Lib.compareBytes a b = cmpS a b
  | [], [] => by simp [Lib.compareBytes, cmpS, Op.bytesLess]
  | [], y :: b => by simp [Lib.compareBytes, cmpS, Op.bytesLess]
  | x :: a, [] => by simp [Lib.compareBytes, cmpS, Op.bytesLess]
  | x :: a, y :: b => by
    have ih := cmpBytes_eq a b
    unfold cmpS at ih ⊢
    rw [Lib.compareBytes, Op.bytesLess]
    by_cases h1 : x < y
    · simp [h1]
    · by_cases h2 : y < x
      · have h3 : ¬ x = y := fun e => by subst e; exact h1 h2
        simp [h1, h2, h3]
      · have h3 : x = y := by
          have := UInt8.le_antisymm (UInt8.not_lt.1 h2) (UInt8.not_lt.1 h1)
          exact this
        subst h3
        simp [h1, ih]

/-! ### States: keys in order -/
end Go.Proofs.YtoeklljhjhidbaaGreatDoor
-- from Hc
namespace Go.Proofs.YtoeklljhjhidbaaGreatDoor
open Go Go.Ab
set_option maxRecDepth 100000

end Go.Proofs.YtoeklljhjhidbaaGreatDoor
-- from Hd
namespace Go.Proofs.YtoeklljhjhidbaaGreatDoor
open Go Go.Ab
set_option maxRecDepth 100000

theorem intRows_at (S : List Int) {i : Nat} (hi : i < S.length) : (intRows S)[i]? = some [.int .i64 S[i]] := by simp [intRows, hi]
end Go.Proofs.YtoeklljhjhidbaaGreatDoor
-- from He
namespace Go.Proofs.YtoeklljhjhidbaaGreatDoor
open Go Go.Ab
set_option maxRecDepth 100000

theorem intRows_get (S : List Int) {i : Nat} (h : i < (intRows S).length) : (intRows S)[i] = [.int .i64 (S[i]'(by rw [intRows_len] at h; exact h))] := by simp [intRows]

end Go.Proofs.YtoeklljhjhidbaaGreatDoor
-- from Hf
namespace Go.Proofs.YtoeklljhjhidbaaGreatDoor
open Go Go.Ab
set_option maxRecDepth 100000

end Go.Proofs.YtoeklljhjhidbaaGreatDoor
-- from Hg
namespace Go.Proofs.YtoeklljhjhidbaaGreatDoor
open Go Go.Ab
set_option maxRecDepth 100000

end Go.Proofs.YtoeklljhjhidbaaGreatDoor
