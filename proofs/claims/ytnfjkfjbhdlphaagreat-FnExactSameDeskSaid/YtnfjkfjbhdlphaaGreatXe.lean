/- Contracts: slices.EqualFunc at types with slices within. No condition. -/
import Derived.Test.YtnfjkfjbhdlphaaGreatTNest
namespace Go.Proofs.YtnfjkfjbhdlphaaGreat
open Go Go.Ab
set_option maxRecDepth 100000

theorem c_EqualFuncMelt (f : Nat) (hf : ∀ a b : Melt, a.wf → HFn Tryz.prog f [.agg a.cells, .agg b.cells] [] (.bool (decide (a = b))) []) (a b : List Melt) (ha : a.length ≤ 9223372036854775807) (hw : ∀ x ∈ a, x.wf) :
    HFn Tryz.prog 93 [.sl 3 (Melt.rows a), .sl 3 (Melt.rows b), .fn f []] [] (.bool (decide (a = b))) [] := by
  refine hfn_intro hm Tryz.func93 (by kernel_rfl) rfl (by kernel_rfl) rfl ret0_ok ?_
  simp [Melt.rows_len]
  refine ⟨fun h => ?_, fun h => ?_⟩
  · exact fun e => h (by rw [e])
  · refine loop_upto hm a.length (fun i => ⟨[(0, .sl 3 (Melt.rows a)), (1, .sl 3 (Melt.rows b)), (2, .fn f []), (15, .sl 3 (Melt.rows a)), (16, .int .i64 a.length), (17, .int .i64 i)], []⟩) (fun i => a.take i = b.take i) (by kernel_rfl) ?_ (by simp) (fun i hi hI => ?_) (fun hI => ?_)
    · exact Wk.weak (ρ := []) (φ := []) (by simp)
    · have hl : a.length = b.length := by omega
      have ea := List.getElem?_eq_getElem hi
      have hi' : i < b.length := by omega
      have eb := List.getElem?_eq_getElem hi'
      have k1 := hf a[i] b[i] (hw _ (List.getElem_mem hi))
      simp only [Melt.cells] at k1
      simp [Melt.rows_len, Melt.row_get, Melt.cells, hi, hi']
      refine CallZ.use0 k1 rfl rfl ?_
      simp
      refine ⟨fun h e => ?_, fun h => ⟨take_succ_eq hI ea eb h, ?_⟩⟩
      · subst e; simp at h
      · refine Wk.weak (ρ := []) (φ := []) ?_
        simp
        exact w64 (by omega) (by omega)
    · simp [Melt.rows_len]
      exact eq_of_take hI (by omega)

theorem c_EqualFuncBell (f : Nat) (hf : ∀ a b : Bell, a.wf → HFn Tryz.prog f [.agg a.cells, .agg b.cells] [] (.bool (decide (a = b))) []) (a b : List Bell) (ha : a.length ≤ 9223372036854775807) (hw : ∀ x ∈ a, x.wf) :
    HFn Tryz.prog 96 [.sl 5 (Bell.rows a), .sl 5 (Bell.rows b), .fn f []] [] (.bool (decide (a = b))) [] := by
  refine hfn_intro hm Tryz.func96 (by kernel_rfl) rfl (by kernel_rfl) rfl ret0_ok ?_
  simp [Bell.rows_len]
  refine ⟨fun h => ?_, fun h => ?_⟩
  · exact fun e => h (by rw [e])
  · refine loop_upto hm a.length (fun i => ⟨[(0, .sl 5 (Bell.rows a)), (1, .sl 5 (Bell.rows b)), (2, .fn f []), (15, .sl 5 (Bell.rows a)), (16, .int .i64 a.length), (17, .int .i64 i)], []⟩) (fun i => a.take i = b.take i) (by kernel_rfl) ?_ (by simp) (fun i hi hI => ?_) (fun hI => ?_)
    · exact Wk.weak (ρ := []) (φ := []) (by simp)
    · have hl : a.length = b.length := by omega
      have ea := List.getElem?_eq_getElem hi
      have hi' : i < b.length := by omega
      have eb := List.getElem?_eq_getElem hi'
      have k1 := hf a[i] b[i] (hw _ (List.getElem_mem hi))
      simp only [Bell.cells] at k1
      simp [Bell.rows_len, Bell.row_get, Bell.cells, hi, hi']
      refine CallZ.use0 k1 rfl rfl ?_
      simp
      refine ⟨fun h e => ?_, fun h => ⟨take_succ_eq hI ea eb h, ?_⟩⟩
      · subst e; simp at h
      · refine Wk.weak (ρ := []) (φ := []) ?_
        simp
        exact w64 (by omega) (by omega)
    · simp [Bell.rows_len]
      exact eq_of_take hI (by omega)

theorem c_EqualFuncBeam (f : Nat) (hf : ∀ a b : Beam, a.wf → HFn Tryz.prog f [.agg a.cells, .agg b.cells] [] (.bool (decide (a = b))) []) (a b : List Beam) (ha : a.length ≤ 9223372036854775807) (hw : ∀ x ∈ a, x.wf) :
    HFn Tryz.prog 30 [.sl 6 (Beam.rows a), .sl 6 (Beam.rows b), .fn f []] [] (.bool (decide (a = b))) [] := by
  refine hfn_intro hm Tryz.func30 (by kernel_rfl) rfl (by kernel_rfl) rfl ret0_ok ?_
  simp [Beam.rows_len]
  refine ⟨fun h => ?_, fun h => ?_⟩
  · exact fun e => h (by rw [e])
  · refine loop_upto hm a.length (fun i => ⟨[(0, .sl 6 (Beam.rows a)), (1, .sl 6 (Beam.rows b)), (2, .fn f []), (15, .sl 6 (Beam.rows a)), (16, .int .i64 a.length), (17, .int .i64 i)], []⟩) (fun i => a.take i = b.take i) (by kernel_rfl) ?_ (by simp) (fun i hi hI => ?_) (fun hI => ?_)
    · exact Wk.weak (ρ := []) (φ := []) (by simp)
    · have hl : a.length = b.length := by omega
      have ea := List.getElem?_eq_getElem hi
      have hi' : i < b.length := by omega
      have eb := List.getElem?_eq_getElem hi'
      have k1 := hf a[i] b[i] (hw _ (List.getElem_mem hi))
      simp only [Beam.cells] at k1
      simp [Beam.rows_len, Beam.row_get, Beam.cells, hi, hi']
      refine CallZ.use0 k1 rfl rfl ?_
      simp
      refine ⟨fun h e => ?_, fun h => ⟨take_succ_eq hI ea eb h, ?_⟩⟩
      · subst e; simp at h
      · refine Wk.weak (ρ := []) (φ := []) ?_
        simp
        exact w64 (by omega) (by omega)
    · simp [Beam.rows_len]
      exact eq_of_take hI (by omega)

theorem c_EqualFuncAction (f : Nat) (hf : ∀ a b : Action, a.wf → HFn Tryz.prog f [.agg a.cells, .agg b.cells] [] (.bool (decide (a = b))) []) (a b : List Action) (ha : a.length ≤ 9223372036854775807) (hw : ∀ x ∈ a, x.wf) :
    HFn Tryz.prog 32 [.sl 4 (Action.rows a), .sl 4 (Action.rows b), .fn f []] [] (.bool (decide (a = b))) [] := by
  refine hfn_intro hm Tryz.func32 (by kernel_rfl) rfl (by kernel_rfl) rfl ret0_ok ?_
  simp [Action.rows_len]
  refine ⟨fun h => ?_, fun h => ?_⟩
  · exact fun e => h (by rw [e])
  · refine loop_upto hm a.length (fun i => ⟨[(0, .sl 4 (Action.rows a)), (1, .sl 4 (Action.rows b)), (2, .fn f []), (15, .sl 4 (Action.rows a)), (16, .int .i64 a.length), (17, .int .i64 i)], []⟩) (fun i => a.take i = b.take i) (by kernel_rfl) ?_ (by simp) (fun i hi hI => ?_) (fun hI => ?_)
    · exact Wk.weak (ρ := []) (φ := []) (by simp)
    · have hl : a.length = b.length := by omega
      have ea := List.getElem?_eq_getElem hi
      have hi' : i < b.length := by omega
      have eb := List.getElem?_eq_getElem hi'
      have k1 := hf a[i] b[i] (hw _ (List.getElem_mem hi))
      simp only [Action.cells] at k1
      simp [Action.rows_len, Action.row_get, Action.cells, hi, hi']
      refine CallZ.use0 k1 rfl rfl ?_
      simp
      refine ⟨fun h e => ?_, fun h => ⟨take_succ_eq hI ea eb h, ?_⟩⟩
      · subst e; simp at h
      · refine Wk.weak (ρ := []) (φ := []) ?_
        simp
        exact w64 (by omega) (by omega)
    · simp [Action.rows_len]
      exact eq_of_take hI (by omega)

end Go.Proofs.YtnfjkfjbhdlphaaGreat
