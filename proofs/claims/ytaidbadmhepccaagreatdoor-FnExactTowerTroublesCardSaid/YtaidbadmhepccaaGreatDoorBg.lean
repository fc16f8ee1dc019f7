/- Contracts: bells whose metal is traced. No condition. -/
import Derived.Test.YtaidbadmhepccaaGreatDoorBd
namespace Go.Proofs.YtaidbadmhepccaaGreatDoor
open Go Go.Ab
set_option maxRecDepth 100000

/-- What is known of bells. -/
structure BelOk (bs : List Bell) : Prop where
  len : bs.length ≤ 24
  shr : ∀ b ∈ bs, b.shares.length ≤ 4
  mass : ∀ b ∈ bs, ∀ s ∈ b.shares, 1 ≤ s.mass ∧ s.mass ≤ 20000000
/-! ### The program's side -/
/-! ### The reference's side -/
end Go.Proofs.YtaidbadmhepccaaGreatDoor
