/- Contracts: desks compared, the reference's side. No condition. -/
import Derived.Test.YtnfjkfjbhdlphaaGreatXd
import Derived.Test.YtnfjkfjbhdlphaaGreatXf
import Derived.Test.YtnfjkfjbhdlphaaGreatCg
namespace Go.Proofs.YtnfjkfjbhdlphaaGreat
open Go Go.Ab
set_option maxRecDepth 100000

theorem c_spec_SameTune (a b : Tune) (ha : a.tones.length ≤ 9223372036854775807) : HFn Tryz.prog 88 [.agg a.cells, .agg b.cells] [] (.bool (decide (a = b))) [] := by
  refine hfn_intro hm Tryz.func88 (by kernel_rfl) rfl (by kernel_rfl) rfl ret0_ok ?_
  have k1 := c_l25Same a b [a.cells] [b.cells] 0 0 rfl rfl ha
  simp only [Tune.cells] at k1
  simp [Tune.cells]
  refine CallZ.use0 k1 rfl rfl ?_
  simp
theorem c_spec_SameBeam (a b : Beam) (ha : a.loads.length ≤ 9223372036854775807) : HFn Tryz.prog 89 [.agg a.cells, .agg b.cells] [] (.bool (decide (a = b))) [] := by
  refine hfn_intro hm Tryz.func89 (by kernel_rfl) rfl (by kernel_rfl) rfl ret0_ok ?_
  have k1 := c_l21Same a b [a.cells] [b.cells] 0 0 rfl rfl ha
  simp only [Beam.cells] at k1
  simp [Beam.cells]
  refine CallZ.use0 k1 rfl rfl ?_
  simp
theorem c_spec_SameBells (a b : List Bell) (ha : a.length ≤ 9223372036854775807) (hw : ∀ x ∈ a, x.wf) : HFn Tryz.prog 87 [.sl 5 (Bell.rows a), .sl 5 (Bell.rows b)] [] (.bool (decide (a = b))) [] := by
  refine hfn_intro hm Tryz.func87 (by kernel_rfl) rfl (by kernel_rfl) rfl ret0_ok ?_
  simp [Bell.rows_len]
  refine ⟨fun h => ?_, fun h => ?_⟩
  · exact fun e => h (by rw [e])
  · refine loop_upto hm a.length (fun i => ⟨[(0, .sl 5 (Bell.rows a)), (1, .sl 5 (Bell.rows b)), (5, .int .i64 i)], []⟩) (fun i => a.take i = b.take i) (by kernel_rfl) ?_ (by simp) (fun i hi hI => ?_) (fun hI => ?_)
    · exact Wk.weak (ρ := []) (φ := []) (by simp)
    · have hl : a.length = b.length := by omega
      have ea := List.getElem?_eq_getElem hi
      have hi' : i < b.length := by omega
      have eb := List.getElem?_eq_getElem hi'
      have k1 := c_l18Same a[i] b[i] (Bell.rows a) (Bell.rows b) i i (by simp [Bell.rows, hi]) (by simp [Bell.rows, hi']) (hw _ (List.getElem_mem hi)).shares.1
      simp [Bell.rows_len, hi, hi']
      refine CallZ.use0 k1 rfl rfl ?_
      simp
      refine ⟨fun h e => ?_, fun h => ⟨take_succ_eq hI ea eb h, ?_⟩⟩
      · subst e; simp at h
      · refine Wk.weak (ρ := []) (φ := []) ?_
        simp
        exact w64 (by omega) (by omega)
    · simp [Bell.rows_len]
      exact eq_of_take hI (by omega)

end Go.Proofs.YtnfjkfjbhdlphaaGreat
