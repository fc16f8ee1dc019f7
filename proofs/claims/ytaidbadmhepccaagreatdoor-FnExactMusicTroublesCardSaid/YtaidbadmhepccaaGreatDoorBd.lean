/- Contracts: melts that are possible, bells whose metal is traced. No condition. -/
import Derived.Test.YtaidbadmhepccaaGreatDoorFm
import Derived.Test.YtaidbadmhepccaaGreatDoorHg
namespace Go.Proofs.YtaidbadmhepccaaGreatDoor
open Go Go.Ab
set_option maxRecDepth 100000

/-! ### Ingots and melts found by their ids -/
/-- Ids rise strictly. -/
def Rising {α : Type} (id : α → List UInt8) (l : List α) : Prop := ∀ i j (hi : i < l.length) (hj : j < l.length), i < j → id l[i] < id l[j]
/-! ### The ingots of a melt -/
/-- What is known of ingots. -/
structure IngOk (l : List Ingot) : Prop where
  len : l.length ≤ 1048576
  rise : Rising Ingot.id l
  mass : ∀ x ∈ l, 0 ≤ x.mass ∧ x.mass ≤ 20000000
/-- What is known of melts. -/
structure MelOk (ms : List Melt) : Prop where
  len : ms.length ≤ 12
  rise : Rising Melt.id ms
  ing : ∀ x ∈ ms, x.ingots.length ≤ 16
  mass : ∀ x ∈ ms, 1 ≤ x.mass ∧ x.mass ≤ 320000000
end Go.Proofs.YtaidbadmhepccaaGreatDoor
