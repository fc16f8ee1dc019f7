/- Contracts: a pin is removed, whole. -/
import Derived.Test.YtmdablalfmcgnaaGreatFe
import Derived.Test.YtmdablalfmcgnaaGreatKc
namespace Go.Proofs.YtmdablalfmcgnaaGreat
open Go Go.Ab
set_option maxRecDepth 100000

def remCode (d : Drum) (p : Pin) : Int := if validDrum d = true then (if findP d.pins p < 0 then 3 else 0) else 1
def remD (d : Drum) (p : Pin) : Drum := if remCode d p = 0 then ⟨d.steps, d.rest, d.notes, d.pins.take (findP d.pins p).toNat ++ d.pins.drop ((findP d.pins p).toNat + 1)⟩ else ⟨0, 0, [], []⟩
theorem remD_le (d : Drum) (p : Pin) : (remD d p).notes.length ≤ d.notes.length ∧ (remD d p).pins.length ≤ d.pins.length := by
  unfold remD
  split
  · simp only
    rw [List.length_append, List.length_take, List.length_drop]
    omega
  · simp
/-- A drum as a result: of two own slices. -/
@[simp] def Drum.res (d : Drum) : PV := .agg [.int .i64 d.steps, .int .i64 d.rest, .sf 0 1, .sf 1 2]
@[simp] def Drum.objs (d : Drum) : Heap := [some (.arr 1 (intRows d.notes)), some (.arr 2 (Pin.rows d.pins))]

/-- No drum. -/
theorem weak_nodrum {H : Heap} {c : Int} : Weak ⟨[(0, .tup [.agg [.int .i64 0, .int .i64 0, .nils, .nils], .int .i64 c])], H⟩ ⟨[(0, .tup [.agg [.int .i64 0, .int .i64 0, .sf 0 1, .sf 1 2], .int .i64 c])], [some (.arr 1 []), some (.arr 2 [])]⟩ := by
  refine (weak_nilTA (t := 0) 0 2 1 rfl rfl rfl).trans ?_
  refine (weak_nilTA (t := 0) 0 3 2 rfl rfl rfl).trans (Wk.weak (ρ := [H.length, H.length + 1]) (φ := []) ?_)
  simp

theorem remD_bad {d : Drum} {p : Pin} {c : Int} (hc : remCode d p = c) (h : c ≠ 0) : remD d p = ⟨0, 0, [], []⟩ := by unfold remD; rw [hc, if_neg h]
theorem remD_good {d : Drum} {p : Pin} {k : Nat} (h : validDrum d = true) (hf : findP d.pins p = k) : remCode d p = 0 ∧ remD d p = ⟨d.steps, d.rest, d.notes, d.pins.take k ++ d.pins.drop (k + 1)⟩ := by
  have hc : remCode d p = 0 := by simp [remCode, h, hf]
  exact ⟨hc, by unfold remD; rw [if_pos hc, hf]; rfl⟩

end Go.Proofs.YtmdablalfmcgnaaGreat
