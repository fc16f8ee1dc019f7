/- Tunes: what later texts need beside the type's own text. No condition. -/
import Derived.Test.YtnfjkfjbhdlphaaGreatCg
import Derived.Test.YtnfjkfjbhdlphaaGreatTNest
namespace Go.Proofs.YtnfjkfjbhdlphaaGreat
open Go Go.Ab
set_option maxRecDepth 100000

theorem Tune.len_of_sz {d : Tune} (h : d.sz ≤ 1048576) : d.tones.length ≤ 1048576 := by
  unfold Tune.sz Tone.szS at h
  omega
@[simp] def Tune.res (d : Tune) : PV := .agg [.str d.name, .sf 0 3]
@[simp] def Tune.objs (d : Tune) : Heap := [some (.arr 3 (Tone.rows d.tones))]
end Go.Proofs.YtnfjkfjbhdlphaaGreat
