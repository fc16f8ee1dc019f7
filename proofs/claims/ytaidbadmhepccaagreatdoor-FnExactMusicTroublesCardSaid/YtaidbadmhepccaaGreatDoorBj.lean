/- Contracts: sway of a tower, beams under their loads, troubles of the tower. No condition. -/
import Derived.Test.YtaidbadmhepccaaGreatDoorBi
import Derived.Test.YtaidbadmhepccaaGreatDoorZc
namespace Go.Proofs.YtaidbadmhepccaaGreatDoor
open Go Go.Ab
set_option maxRecDepth 100000

/-! ### Sway -/
structure TowIn (t : Tower) : Prop where
  s0 : 100 ≤ t.sway
  s1 : t.sway ≤ 10000
  d0 : 5 ≤ t.damping
  d1 : t.damping ≤ 500
  f0 : 1 ≤ t.stiffness
  f1 : t.stiffness ≤ 1000000
structure SwIn (s : Swing) : Prop where
  r0 : 100 ≤ s.rate
  r1 : s.rate ≤ 5000
  f0 : 1 ≤ s.force
  f1 : s.force ≤ 1000000
end Go.Proofs.YtaidbadmhepccaaGreatDoor
