/- Tunes: what later texts need beside the type's own text. No condition. -/
import Derived.Test.YtaidbadmhepccaaGreatCf
import Derived.Test.YtaidbadmhepccaaGreatTNest
namespace Go.Proofs.YtaidbadmhepccaaGreat
open Go Go.Ab
set_option maxRecDepth 100000

@[simp] def Tune.res (d : Tune) : PV := .agg [.str d.name, .sf 0 3]
@[simp] def Tune.objs (d : Tune) : Heap := [some (.arr 3 (Tone.rows d.tones))]
end Go.Proofs.YtaidbadmhepccaaGreat
