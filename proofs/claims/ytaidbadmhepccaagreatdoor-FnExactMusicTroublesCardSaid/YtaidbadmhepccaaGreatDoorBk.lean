/- Contracts: beams under their loads. No condition. -/
import Derived.Test.YtaidbadmhepccaaGreatDoorBj
namespace Go.Proofs.YtaidbadmhepccaaGreatDoor
open Go Go.Ab
set_option maxRecDepth 100000

structure BeamIn (b : Beam) : Prop where
  s0 : 1 ≤ b.span
  s1 : b.span ≤ 6000
  w0 : 20 ≤ b.width
  w1 : b.width ≤ 1000
  d0 : 20 ≤ b.depth
  d1 : b.depth ≤ 1000
  o0 : 1000 ≤ b.wood
  o1 : b.wood ≤ 20000
  len : b.loads.length ≤ 8
  ld : ∀ x ∈ b.loads, (0 ≤ x.k_at ∧ x.k_at ≤ b.span) ∧ 1 ≤ x.weight ∧ x.weight ≤ 200000
/-! ### The moment at a place -/
/-! ### The greatest moment, the stress -/
/-! ### The bending -/
def halfA (b : Beam) (l : Load) : Int := min l.k_at (b.span - l.k_at)
def bend1 (b : Beam) (l : Load) : Int := l.weight * halfA b l * (3 * b.span * b.span - 4 * halfA b l * halfA b l)
structure BendIn (b : Beam) (l : Load) : Prop where
  a0 : 0 ≤ halfA b l
  a1 : halfA b l ≤ 3000
  wa0 : 0 ≤ l.weight * halfA b l
  wa1 : l.weight * halfA b l ≤ 600000000
  ss0 : 0 ≤ 3 * b.span * b.span
  ss1 : 3 * b.span * b.span ≤ 108000000
  aa0 : 0 ≤ 4 * halfA b l * halfA b l
  aa1 : 4 * halfA b l * halfA b l ≤ 36000000
  d0 : 0 ≤ 3 * b.span * b.span - 4 * halfA b l * halfA b l
  d1 : 3 * b.span * b.span - 4 * halfA b l * halfA b l ≤ 108000000
  b0 : 0 ≤ bend1 b l
  b1 : bend1 b l ≤ 64800000000000000
def denV (b : Beam) : Int := (b.wood * b.width * b.depth * b.depth * b.depth).tdiv 250
structure DenIn (b : Beam) : Prop where
  e1 : IntKind.i64.wrap (b.wood * b.width) = b.wood * b.width
  e2 : IntKind.i64.wrap (b.wood * b.width * b.depth) = b.wood * b.width * b.depth
  e3 : IntKind.i64.wrap (b.wood * b.width * b.depth * b.depth) = b.wood * b.width * b.depth * b.depth
  e4 : IntKind.i64.wrap (b.wood * b.width * b.depth * b.depth * b.depth) = b.wood * b.width * b.depth * b.depth * b.depth
  e5 : IntKind.i64.wrap ((b.wood * b.width * b.depth * b.depth * b.depth).tdiv 250) = denV b
  d0 : 0 < denV b
  d1 : denV b ≤ 80000000000000
end Go.Proofs.YtaidbadmhepccaaGreatDoor
