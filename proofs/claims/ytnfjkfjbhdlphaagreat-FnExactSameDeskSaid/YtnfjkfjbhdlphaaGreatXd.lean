/- Contracts: desks compared, the program's side and the reference's. No condition. -/
import Derived.Test.YtnfjkfjbhdlphaaGreatTNest
import Derived.Test.YtnfjkfjbhdlphaaGreatXe
namespace Go.Proofs.YtnfjkfjbhdlphaaGreat
open Go Go.Ab
set_option maxRecDepth 100000

theorem c_EqualStr (a b : List (List UInt8)) (ha : a.length ≤ 9223372036854775807) : HFn Tryz.prog 95 [.sl 1 (strRows a), .sl 1 (strRows b)] [] (.bool (decide (a = b))) [] := by
  refine hfn_intro hm Tryz.func95 (by kernel_rfl) rfl (by kernel_rfl) rfl ret0_ok ?_
  simp [strRows_len]
  refine ⟨fun h => ?_, fun h => ?_⟩
  · exact fun e => h (by rw [e])
  · refine loop_upto hm a.length (fun i => ⟨[(0, .sl 1 (strRows a)), (1, .sl 1 (strRows b)), (12, .int .i64 a.length), (13, .int .i64 i)], []⟩) (fun i => a.take i = b.take i) (by kernel_rfl) ?_ (by simp) (fun i hi hI => ?_) (fun hI => ?_)
    · exact Wk.weak (ρ := []) (φ := []) (by simp)
    · have hl : a.length = b.length := by omega
      have ea := List.getElem?_eq_getElem hi
      have hi' : i < b.length := by omega
      have eb := List.getElem?_eq_getElem hi'
      simp [strRows_len, strRows_get, hi, hi']
      refine ⟨fun h e => ?_, fun h => ⟨take_succ_eq hI ea eb h, ?_⟩⟩
      · subst e; simp at h
      · refine Wk.weak (ρ := []) (φ := []) ?_
        simp
        exact w64 (by omega) (by omega)
    · simp [strRows_len]
      exact eq_of_take hI (by omega)

theorem c_SameMelts1 (a b : Melt) (ha : a.wf) : HFn Tryz.prog 94 [.agg a.cells, .agg b.cells] [] (.bool (decide (a = b))) [] := by
  refine hfn_intro hm Tryz.func94 (by kernel_rfl) rfl (by kernel_rfl) rfl ret0_ok ?_
  simp [Melt.cells, Melt.eq_iff]
  refine CallY.use (fun _ => ⟨rfl, c_EqualStr a.ingots b.ingots ha.ingots.1⟩) rfl rfl ?_
  simp
  grind
theorem c_sameBell (a b : Bell) (ha : a.wf) : HFn Tryz.prog 97 [.agg a.cells, .agg b.cells] [] (.bool (decide (a = b))) [] := by
  refine hfn_intro hm Tryz.func97 (by kernel_rfl) rfl (by kernel_rfl) rfl ret0_ok ?_
  simp [Bell.cells, Bell.eq_iff]
  repeat refine ⟨by grind, ?_⟩
  refine CallY.use (fun _ => ⟨rfl, c_EqualShare a.shares b.shares ha.shares.1⟩) rfl rfl ?_
  simp
  grind
theorem c_SameBeam (a b : Beam) (ha : a.wf) : HFn Tryz.prog 31 [.agg a.cells, .agg b.cells] [] (.bool (decide (a = b))) [] := by
  refine hfn_intro hm Tryz.func31 (by kernel_rfl) rfl (by kernel_rfl) rfl ret0_ok ?_
  simp [Beam.cells, Beam.eq_iff]
  repeat refine ⟨by grind, ?_⟩
  refine CallY.use (fun _ => ⟨rfl, c_EqualLoad a.loads b.loads ha.loads.1⟩) rfl rfl ?_
  simp
  grind
theorem c_SameAction (a b : Action) (ha : a.wf) : HFn Tryz.prog 33 [.agg a.cells, .agg b.cells] [] (.bool (decide (a = b))) [] := by
  refine hfn_intro hm Tryz.func33 (by kernel_rfl) rfl (by kernel_rfl) rfl ret0_ok ?_
  simp [Action.cells, Action.eq_iff]
  refine CallY.use (fun _ => ⟨rfl, c_EqualLever a.levers b.levers ha.levers.1⟩) rfl rfl ?_
  simp
  grind
theorem c_impl_SameTune (a b : Tune) (ha : a.wf) : HFn Tryz.prog 34 [.agg a.cells, .agg b.cells] [] (.bool (decide (a = b))) [] := by
  refine hfn_intro hm Tryz.func34 (by kernel_rfl) rfl (by kernel_rfl) rfl ret0_ok ?_
  simp [Tune.cells, Tune.eq_iff]
  refine CallY.use (fun _ => ⟨rfl, c_EqualTone a.tones b.tones ha.tones.1⟩) rfl rfl ?_
  simp
  try grind

theorem c_impl_SameMelts (a b : List Melt) (ha : a.length ≤ 9223372036854775807) (hw : ∀ x ∈ a, x.wf) : HFn Tryz.prog 26 [.sl 3 (Melt.rows a), .sl 3 (Melt.rows b)] [] (.bool (decide (a = b))) [] := by
  refine hfn_intro hm Tryz.func26 (by kernel_rfl) rfl (by kernel_rfl) rfl ret0_ok ?_
  simp
  refine CallZ.use0 (c_EqualFuncMelt _ c_SameMelts1 a b ha hw) rfl rfl ?_
  simp
theorem c_impl_SameBells (a b : List Bell) (ha : a.length ≤ 9223372036854775807) (hw : ∀ x ∈ a, x.wf) : HFn Tryz.prog 27 [.sl 5 (Bell.rows a), .sl 5 (Bell.rows b)] [] (.bool (decide (a = b))) [] := by
  refine hfn_intro hm Tryz.func27 (by kernel_rfl) rfl (by kernel_rfl) rfl ret0_ok ?_
  simp
  refine CallZ.use0 (c_EqualFuncBell _ c_sameBell a b ha hw) rfl rfl ?_
  simp

theorem c_l14Words (a b : List (List UInt8)) (ha : a.length ≤ 9223372036854775807) : HFn Tryz.prog 159 [.sl 1 (strRows a), .sl 1 (strRows b)] [] (.bool (decide (a = b))) [] := by
  refine hfn_intro hm Tryz.func159 (by kernel_rfl) rfl (by kernel_rfl) rfl ret0_ok ?_
  simp [strRows_len]
  refine ⟨fun h => ?_, fun h => ?_⟩
  · exact fun e => h (by rw [e])
  · refine loop_upto hm a.length (fun i => ⟨[(0, .sl 1 (strRows a)), (1, .sl 1 (strRows b)), (5, .int .i64 i)], []⟩) (fun i => a.take i = b.take i) (by kernel_rfl) ?_ (by simp) (fun i hi hI => ?_) (fun hI => ?_)
    · exact Wk.weak (ρ := []) (φ := []) (by simp)
    · have hl : a.length = b.length := by omega
      have ea := List.getElem?_eq_getElem hi
      have hi' : i < b.length := by omega
      have eb := List.getElem?_eq_getElem hi'
      simp [strRows_len, strRows_get, hi, hi']
      refine ⟨fun h e => ?_, fun h => ⟨take_succ_eq hI ea eb h, ?_⟩⟩
      · subst e; simp at h
      · refine Wk.weak (ρ := []) (φ := []) ?_
        simp
        exact w64 (by omega) (by omega)
    · simp [strRows_len]
      exact eq_of_take hI (by omega)
theorem c_spec_SameMelts (a b : List Melt) (ha : a.length ≤ 9223372036854775807) (hw : ∀ x ∈ a, x.wf) : HFn Tryz.prog 86 [.sl 3 (Melt.rows a), .sl 3 (Melt.rows b)] [] (.bool (decide (a = b))) [] := by
  refine hfn_intro hm Tryz.func86 (by kernel_rfl) rfl (by kernel_rfl) rfl ret0_ok ?_
  simp [Melt.rows_len]
  refine ⟨fun h => ?_, fun h => ?_⟩
  · exact fun e => h (by rw [e])
  · refine loop_upto hm a.length (fun i => ⟨[(0, .sl 3 (Melt.rows a)), (1, .sl 3 (Melt.rows b)), (5, .int .i64 i)], []⟩) (fun i => a.take i = b.take i) (by kernel_rfl) ?_ (by simp) (fun i hi hI => ?_) (fun hI => ?_)
    · exact Wk.weak (ρ := []) (φ := []) (by simp)
    · have hl : a.length = b.length := by omega
      have ea := List.getElem?_eq_getElem hi
      have hi' : i < b.length := by omega
      have eb := List.getElem?_eq_getElem hi'
      have k1 := c_l14Words a[i].ingots b[i].ingots (hw _ (List.getElem_mem hi)).ingots.1
      simp [Melt.rows_len, Melt.row_get, Melt.cells, hi, hi']
      refine ⟨fun h1 h2 => ⟨h1, h2⟩, CallY.use (fun _ => ⟨rfl, k1⟩) rfl rfl ?_⟩
      simp
      refine ⟨fun h1 h2 => ⟨h1, h2⟩, fun h e => ?_, fun h1 h2 h3 => ⟨take_succ_eq hI ea eb (Melt.eq_iff.2 ⟨h1, h3, h2⟩), ?_⟩⟩
      · subst e; simp at h
      · refine Wk.weak (ρ := []) (φ := []) ?_
        simp
        exact w64 (by omega) (by omega)
    · simp [Melt.rows_len]
      exact eq_of_take hI (by omega)
end Go.Proofs.YtnfjkfjbhdlphaaGreat
