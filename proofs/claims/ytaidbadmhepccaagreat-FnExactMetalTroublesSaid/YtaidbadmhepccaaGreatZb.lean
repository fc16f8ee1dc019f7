/- Hung bells and their swings: plain law and contracts. No condition. -/
import Derived.Test.YtaidbadmhepccaaGreatZa
import Derived.Test.YtaidbadmhepccaaGreatCa
import Derived.Test.YtaidbadmhepccaaGreatCe
import Derived.Test.YtaidbadmhepccaaGreatCf
import Derived.Test.YtaidbadmhepccaaGreatTI
import Derived.Test.YtaidbadmhepccaaGreatTFlat
namespace Go.Proofs.YtaidbadmhepccaaGreat
open Go Go.Ab
set_option maxRecDepth 100000

def hungOk (h : Hung) : Bool := isName h.bell && (decide (1 ≤ h.mass) && decide (h.mass ≤ 20000000)) && (decide (1 ≤ h.arm) && decide (h.arm ≤ 30000)) && (decide (1 ≤ h.form) && decide (h.form ≤ 1000)) && (decide (1 ≤ h.angle) && decide (h.angle ≤ 180))
structure HungIn (h : Hung) : Prop where
  m0 : 1 ≤ h.mass
  m1 : h.mass ≤ 20000000
  a0 : 1 ≤ h.arm
  a1 : h.arm ≤ 30000
  f0 : 1 ≤ h.form
  f1 : h.form ≤ 1000
  g0 : 1 ≤ h.angle
  g1 : h.angle ≤ 180
def lenOf (h : Hung) : Int := nearV (1000 * h.arm) h.form
/-! ### Bounds -/
/-! ### Contracts -/
end Go.Proofs.YtaidbadmhepccaaGreat
