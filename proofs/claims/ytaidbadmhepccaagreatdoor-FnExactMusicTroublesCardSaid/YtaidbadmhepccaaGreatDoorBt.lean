/- Contracts: copies of melts, bells, beams, keys and tunes whose inner lists are one's own. No condition. -/
import Derived.Test.YtaidbadmhepccaaGreatDoorTNest
import Derived.Test.YtaidbadmhepccaaGreatDoorBs
namespace Go.Proofs.YtaidbadmhepccaaGreatDoor
open Go Go.Ab
set_option maxRecDepth 100000

theorem c_toStringSO (l : List (List UInt8)) (hl : l.length ≤ 1048576) : HFn Tryz.prog 149 [.sl 1 (strRows l)] [] (.sf 0 1) [some (.arr 1 (strRows l))] := by
  refine hfn_intro hm Tryz.func149 (by kernel_rfl) rfl (by kernel_rfl) rfl (fun _ _ h => h) ?_
  simp [strRows]
  refine ⟨by omega, by omega, ?_⟩
  refine loop_upto hm l.length (fun i => ⟨[(0, .sl 1 (strRows l)), (3, .sf 0 1), (4, .int .i64 i)], [some (.arr 1 ((l.take i).map (fun s => [PV.str s]) ++ List.replicate (l.length - i) [.str []]))]⟩) (fun _ => True) (by kernel_rfl) ?_ trivial (fun i hi _ => ?_) (fun _ => ?_)
  · exact Wk.weak (ρ := [0]) (φ := []) (by simp [strRows])
  · obtain ⟨X, hX, hXl, hXg⟩ := filled (fun s => [PV.str s]) l [.str []] hi
    rw [hX]
    have ea := List.getElem?_eq_getElem hi
    simp [strRows, hi, hXl, hXg]
    refine Wk.weak (ρ := [0]) (φ := []) ?_
    simp
    rw [w64 (by omega) (by omega), ← hX]
    exact ⟨rfl, filled_next (fun s => [PV.str s]) l [.str []] hi⟩
  · simp [strRows]
    exact Wk.weak (ρ := [0]) (φ := []) (by simp)
theorem c_toMeltO (x : Melt) (h : x.sz ≤ 1048576) : HFn Tryz.prog 79 [.agg x.cells] [] (.agg [.str x.id, .sf 0 1, .int .i64 x.mass]) [some (.arr 1 (strRows x.ingots))] := by
  unfold Melt.sz at h
  refine hfn_intro hm Tryz.func79 (by kernel_rfl) rfl (by kernel_rfl) rfl (fun _ _ h => h) ?_
  simp [Melt.cells]
  have k1 := c_toStringSO x.ingots (by unfold strSzS at h; omega)
  refine CallZ.use k1 rfl (.inr ⟨flat_strRows _, trivial⟩) rfl rfl ?_
  simp
  exact Wk.weak (ρ := [3]) (φ := []) (by simp)
theorem c_toBellO (x : Bell) (h : x.sz ≤ 1048576) : HFn Tryz.prog 80 [.agg x.cells] [] (.agg [.str x.id, .int .i64 x.note, .int .i64 x.mass, .int .i64 x.feed, .sf 0 2]) [some (.arr 2 (Share.rows x.shares))] := by
  unfold Bell.sz at h
  refine hfn_intro hm Tryz.func80 (by kernel_rfl) rfl (by kernel_rfl) rfl (fun _ _ h => h) ?_
  simp [Bell.cells]
  have k1 := c_toShareS x.shares (by unfold Share.szS at h; omega)
  refine CallZ.use k1 rfl (.inr ⟨Share.flat _, trivial⟩) rfl rfl ?_
  simp
  exact Wk.weak (ρ := [3]) (φ := []) (by simp)
theorem c_toBeamO (x : Beam) (h : x.sz ≤ 1048576) : HFn Tryz.prog 83 [.agg x.cells] [] (.agg [.str x.name, .int .i64 x.span, .int .i64 x.width, .int .i64 x.depth, .int .i64 x.wood, .sf 0 2]) [some (.arr 2 (Load.rows x.loads))] := by
  unfold Beam.sz at h
  refine hfn_intro hm Tryz.func83 (by kernel_rfl) rfl (by kernel_rfl) rfl (fun _ _ h => h) ?_
  simp [Beam.cells]
  have k1 := c_toLoadS x.loads (by unfold Load.szS at h; omega)
  refine CallZ.use k1 rfl (.inr ⟨Load.flat _, trivial⟩) rfl rfl ?_
  simp
  exact Wk.weak (ρ := [3]) (φ := []) (by simp)
theorem c_toActionO (x : Action) (h : x.sz ≤ 1048576) : HFn Tryz.prog 84 [.agg x.cells] [] (.agg [.int .i64 x.note, .sf 0 2, .int .i64 x.slack, .int .i64 x.weight]) [some (.arr 2 (Lever.rows x.levers))] := by
  unfold Action.sz at h
  refine hfn_intro hm Tryz.func84 (by kernel_rfl) rfl (by kernel_rfl) rfl (fun _ _ h => h) ?_
  simp [Action.cells]
  have k1 := c_toLeverS x.levers (by unfold Lever.szS at h; omega)
  refine CallZ.use k1 rfl (.inr ⟨Lever.flat _, trivial⟩) rfl rfl ?_
  simp
  exact Wk.weak (ρ := [3]) (φ := []) (by simp)
theorem c_toTuneO (x : Tune) (h : x.sz ≤ 1048576) : HFn Tryz.prog 38 [.agg x.cells] [] (.agg [.str x.name, .sf 0 3]) [some (.arr 3 (Tone.rows x.tones))] := by
  unfold Tune.sz at h
  refine hfn_intro hm Tryz.func38 (by kernel_rfl) rfl (by kernel_rfl) rfl (fun _ _ h => h) ?_
  simp [Tune.cells]
  have k1 := c_toToneS x.tones (by unfold Tone.szS at h; omega)
  refine CallZ.use k1 rfl (.inr ⟨Tone.flat _, trivial⟩) rfl rfl ?_
  simp
  exact Wk.weak (ρ := [3]) (φ := []) (by simp)
end Go.Proofs.YtaidbadmhepccaaGreatDoor
