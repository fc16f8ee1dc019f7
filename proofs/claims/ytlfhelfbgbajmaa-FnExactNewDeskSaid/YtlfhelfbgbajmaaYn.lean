/- The desk in the beginning: contracts of what the laws do with it, and of the law on it. No condition. -/
import Derived.Test.YtlfhelfbgbajmaaTI
namespace Go.Proofs.Ytlfhelfbgbajmaa
open Go Go.Ab
set_option maxRecDepth 100000

theorem n_eqIngotS : HFn Try.prog 19 [.nils, .nils] [] (.bool true) [] := by
  refine hfn_intro hm Try.func19 (by kernel_rfl) rfl (by kernel_rfl) rfl ret0_ok ?_
  simp
  refine loop_upto hm 0 (fun _ => ⟨[(0, .nils), (1, .nils), (5, .int .i64 0)], []⟩) (fun _ => True) (by kernel_rfl) ?_ trivial (fun i hi _ => absurd hi (Nat.not_lt_zero i)) (fun _ => ?_)
  · exact Wk.weak (ρ := []) (φ := []) (by simp)
  · simp

theorem n_markIngotS (k : Int) : HFn Try.prog 31 [.nils, .int .i64 k] [] (.int .i64 k) [] := by
  refine hfn_intro hm Try.func31 (by kernel_rfl) rfl (by kernel_rfl) rfl ret0_ok ?_
  simp
  refine loop_upto hm 0 (fun _ => ⟨[(0, .nils), (1, .int .i64 k), (5, .int .i64 0)], []⟩) (fun _ => True) (by kernel_rfl) ?_ trivial (fun i hi _ => absurd hi (Nat.not_lt_zero i)) (fun _ => ?_)
  · exact Wk.weak (ρ := []) (φ := []) (by simp)
  · simp

theorem n_heldIngotS (k : Int) : HFn Try.prog 40 [.nils, .int .i64 k] [] (.int .i64 k) [] := by
  refine hfn_intro hm Try.func40 (by kernel_rfl) rfl (by kernel_rfl) rfl ret0_ok ?_
  simp
  refine loop_upto hm 0 (fun _ => ⟨[(0, .nils), (1, .int .i64 k), (5, .int .i64 0)], []⟩) (fun _ => True) (by kernel_rfl) ?_ trivial (fun i hi _ => absurd hi (Nat.not_lt_zero i)) (fun _ => ?_)
  · exact Wk.weak (ρ := []) (φ := []) (by simp)
  · simp

theorem n_eqMeltS : HFn Try.prog 20 [.nils, .nils] [] (.bool true) [] := by
  refine hfn_intro hm Try.func20 (by kernel_rfl) rfl (by kernel_rfl) rfl ret0_ok ?_
  simp
  refine loop_upto hm 0 (fun _ => ⟨[(0, .nils), (1, .nils), (5, .int .i64 0)], []⟩) (fun _ => True) (by kernel_rfl) ?_ trivial (fun i hi _ => absurd hi (Nat.not_lt_zero i)) (fun _ => ?_)
  · exact Wk.weak (ρ := []) (φ := []) (by simp)
  · simp

theorem n_markMeltS (k : Int) : HFn Try.prog 32 [.nils, .int .i64 k] [] (.int .i64 k) [] := by
  refine hfn_intro hm Try.func32 (by kernel_rfl) rfl (by kernel_rfl) rfl ret0_ok ?_
  simp
  refine loop_upto hm 0 (fun _ => ⟨[(0, .nils), (1, .int .i64 k), (5, .int .i64 0)], []⟩) (fun _ => True) (by kernel_rfl) ?_ trivial (fun i hi _ => absurd hi (Nat.not_lt_zero i)) (fun _ => ?_)
  · exact Wk.weak (ρ := []) (φ := []) (by simp)
  · simp

theorem n_heldMeltS (k : Int) : HFn Try.prog 41 [.nils, .int .i64 k] [] (.int .i64 k) [] := by
  refine hfn_intro hm Try.func41 (by kernel_rfl) rfl (by kernel_rfl) rfl ret0_ok ?_
  simp
  refine loop_upto hm 0 (fun _ => ⟨[(0, .nils), (1, .int .i64 k), (5, .int .i64 0)], []⟩) (fun _ => True) (by kernel_rfl) ?_ trivial (fun i hi _ => absurd hi (Nat.not_lt_zero i)) (fun _ => ?_)
  · exact Wk.weak (ρ := []) (φ := []) (by simp)
  · simp

theorem n_eqBellS : HFn Try.prog 21 [.nils, .nils] [] (.bool true) [] := by
  refine hfn_intro hm Try.func21 (by kernel_rfl) rfl (by kernel_rfl) rfl ret0_ok ?_
  simp
  refine loop_upto hm 0 (fun _ => ⟨[(0, .nils), (1, .nils), (5, .int .i64 0)], []⟩) (fun _ => True) (by kernel_rfl) ?_ trivial (fun i hi _ => absurd hi (Nat.not_lt_zero i)) (fun _ => ?_)
  · exact Wk.weak (ρ := []) (φ := []) (by simp)
  · simp

theorem n_markBellS (k : Int) : HFn Try.prog 33 [.nils, .int .i64 k] [] (.int .i64 k) [] := by
  refine hfn_intro hm Try.func33 (by kernel_rfl) rfl (by kernel_rfl) rfl ret0_ok ?_
  simp
  refine loop_upto hm 0 (fun _ => ⟨[(0, .nils), (1, .int .i64 k), (5, .int .i64 0)], []⟩) (fun _ => True) (by kernel_rfl) ?_ trivial (fun i hi _ => absurd hi (Nat.not_lt_zero i)) (fun _ => ?_)
  · exact Wk.weak (ρ := []) (φ := []) (by simp)
  · simp

theorem n_heldBellS (k : Int) : HFn Try.prog 42 [.nils, .int .i64 k] [] (.int .i64 k) [] := by
  refine hfn_intro hm Try.func42 (by kernel_rfl) rfl (by kernel_rfl) rfl ret0_ok ?_
  simp
  refine loop_upto hm 0 (fun _ => ⟨[(0, .nils), (1, .int .i64 k), (5, .int .i64 0)], []⟩) (fun _ => True) (by kernel_rfl) ?_ trivial (fun i hi _ => absurd hi (Nat.not_lt_zero i)) (fun _ => ?_)
  · exact Wk.weak (ρ := []) (φ := []) (by simp)
  · simp

theorem n_eqHungS : HFn Try.prog 22 [.nils, .nils] [] (.bool true) [] := by
  refine hfn_intro hm Try.func22 (by kernel_rfl) rfl (by kernel_rfl) rfl ret0_ok ?_
  simp
  refine loop_upto hm 0 (fun _ => ⟨[(0, .nils), (1, .nils), (5, .int .i64 0)], []⟩) (fun _ => True) (by kernel_rfl) ?_ trivial (fun i hi _ => absurd hi (Nat.not_lt_zero i)) (fun _ => ?_)
  · exact Wk.weak (ρ := []) (φ := []) (by simp)
  · simp

theorem n_markHungS (k : Int) : HFn Try.prog 34 [.nils, .int .i64 k] [] (.int .i64 k) [] := by
  refine hfn_intro hm Try.func34 (by kernel_rfl) rfl (by kernel_rfl) rfl ret0_ok ?_
  simp
  refine loop_upto hm 0 (fun _ => ⟨[(0, .nils), (1, .int .i64 k), (5, .int .i64 0)], []⟩) (fun _ => True) (by kernel_rfl) ?_ trivial (fun i hi _ => absurd hi (Nat.not_lt_zero i)) (fun _ => ?_)
  · exact Wk.weak (ρ := []) (φ := []) (by simp)
  · simp

theorem n_heldHungS (k : Int) : HFn Try.prog 43 [.nils, .int .i64 k] [] (.int .i64 k) [] := by
  refine hfn_intro hm Try.func43 (by kernel_rfl) rfl (by kernel_rfl) rfl ret0_ok ?_
  simp
  refine loop_upto hm 0 (fun _ => ⟨[(0, .nils), (1, .int .i64 k), (5, .int .i64 0)], []⟩) (fun _ => True) (by kernel_rfl) ?_ trivial (fun i hi _ => absurd hi (Nat.not_lt_zero i)) (fun _ => ?_)
  · exact Wk.weak (ρ := []) (φ := []) (by simp)
  · simp

theorem n_eqPlaceS : HFn Try.prog 24 [.nils, .nils] [] (.bool true) [] := by
  refine hfn_intro hm Try.func24 (by kernel_rfl) rfl (by kernel_rfl) rfl ret0_ok ?_
  simp
  refine loop_upto hm 0 (fun _ => ⟨[(0, .nils), (1, .nils), (5, .int .i64 0)], []⟩) (fun _ => True) (by kernel_rfl) ?_ trivial (fun i hi _ => absurd hi (Nat.not_lt_zero i)) (fun _ => ?_)
  · exact Wk.weak (ρ := []) (φ := []) (by simp)
  · simp

theorem n_markPlaceS (k : Int) : HFn Try.prog 35 [.nils, .int .i64 k] [] (.int .i64 k) [] := by
  refine hfn_intro hm Try.func35 (by kernel_rfl) rfl (by kernel_rfl) rfl ret0_ok ?_
  simp
  refine loop_upto hm 0 (fun _ => ⟨[(0, .nils), (1, .int .i64 k), (5, .int .i64 0)], []⟩) (fun _ => True) (by kernel_rfl) ?_ trivial (fun i hi _ => absurd hi (Nat.not_lt_zero i)) (fun _ => ?_)
  · exact Wk.weak (ρ := []) (φ := []) (by simp)
  · simp

theorem n_heldPlaceS (k : Int) : HFn Try.prog 44 [.nils, .int .i64 k] [] (.int .i64 k) [] := by
  refine hfn_intro hm Try.func44 (by kernel_rfl) rfl (by kernel_rfl) rfl ret0_ok ?_
  simp
  refine loop_upto hm 0 (fun _ => ⟨[(0, .nils), (1, .int .i64 k), (5, .int .i64 0)], []⟩) (fun _ => True) (by kernel_rfl) ?_ trivial (fun i hi _ => absurd hi (Nat.not_lt_zero i)) (fun _ => ?_)
  · exact Wk.weak (ρ := []) (φ := []) (by simp)
  · simp

theorem n_eqBeamS : HFn Try.prog 26 [.nils, .nils] [] (.bool true) [] := by
  refine hfn_intro hm Try.func26 (by kernel_rfl) rfl (by kernel_rfl) rfl ret0_ok ?_
  simp
  refine loop_upto hm 0 (fun _ => ⟨[(0, .nils), (1, .nils), (5, .int .i64 0)], []⟩) (fun _ => True) (by kernel_rfl) ?_ trivial (fun i hi _ => absurd hi (Nat.not_lt_zero i)) (fun _ => ?_)
  · exact Wk.weak (ρ := []) (φ := []) (by simp)
  · simp

theorem n_markBeamS (k : Int) : HFn Try.prog 36 [.nils, .int .i64 k] [] (.int .i64 k) [] := by
  refine hfn_intro hm Try.func36 (by kernel_rfl) rfl (by kernel_rfl) rfl ret0_ok ?_
  simp
  refine loop_upto hm 0 (fun _ => ⟨[(0, .nils), (1, .int .i64 k), (5, .int .i64 0)], []⟩) (fun _ => True) (by kernel_rfl) ?_ trivial (fun i hi _ => absurd hi (Nat.not_lt_zero i)) (fun _ => ?_)
  · exact Wk.weak (ρ := []) (φ := []) (by simp)
  · simp

theorem n_heldBeamS (k : Int) : HFn Try.prog 45 [.nils, .int .i64 k] [] (.int .i64 k) [] := by
  refine hfn_intro hm Try.func45 (by kernel_rfl) rfl (by kernel_rfl) rfl ret0_ok ?_
  simp
  refine loop_upto hm 0 (fun _ => ⟨[(0, .nils), (1, .int .i64 k), (5, .int .i64 0)], []⟩) (fun _ => True) (by kernel_rfl) ?_ trivial (fun i hi _ => absurd hi (Nat.not_lt_zero i)) (fun _ => ?_)
  · exact Wk.weak (ρ := []) (φ := []) (by simp)
  · simp

theorem n_eqActionS : HFn Try.prog 27 [.nils, .nils] [] (.bool true) [] := by
  refine hfn_intro hm Try.func27 (by kernel_rfl) rfl (by kernel_rfl) rfl ret0_ok ?_
  simp
  refine loop_upto hm 0 (fun _ => ⟨[(0, .nils), (1, .nils), (5, .int .i64 0)], []⟩) (fun _ => True) (by kernel_rfl) ?_ trivial (fun i hi _ => absurd hi (Nat.not_lt_zero i)) (fun _ => ?_)
  · exact Wk.weak (ρ := []) (φ := []) (by simp)
  · simp

theorem n_markActionS (k : Int) : HFn Try.prog 37 [.nils, .int .i64 k] [] (.int .i64 k) [] := by
  refine hfn_intro hm Try.func37 (by kernel_rfl) rfl (by kernel_rfl) rfl ret0_ok ?_
  simp
  refine loop_upto hm 0 (fun _ => ⟨[(0, .nils), (1, .int .i64 k), (5, .int .i64 0)], []⟩) (fun _ => True) (by kernel_rfl) ?_ trivial (fun i hi _ => absurd hi (Nat.not_lt_zero i)) (fun _ => ?_)
  · exact Wk.weak (ρ := []) (φ := []) (by simp)
  · simp

theorem n_heldActionS (k : Int) : HFn Try.prog 46 [.nils, .int .i64 k] [] (.int .i64 k) [] := by
  refine hfn_intro hm Try.func46 (by kernel_rfl) rfl (by kernel_rfl) rfl ret0_ok ?_
  simp
  refine loop_upto hm 0 (fun _ => ⟨[(0, .nils), (1, .int .i64 k), (5, .int .i64 0)], []⟩) (fun _ => True) (by kernel_rfl) ?_ trivial (fun i hi _ => absurd hi (Nat.not_lt_zero i)) (fun _ => ?_)
  · exact Wk.weak (ρ := []) (φ := []) (by simp)
  · simp

theorem n_eqToneS : HFn Try.prog 55 [.nils, .nils] [] (.bool true) [] := by
  refine hfn_intro hm Try.func55 (by kernel_rfl) rfl (by kernel_rfl) rfl ret0_ok ?_
  simp
  refine loop_upto hm 0 (fun _ => ⟨[(0, .nils), (1, .nils), (5, .int .i64 0)], []⟩) (fun _ => True) (by kernel_rfl) ?_ trivial (fun i hi _ => absurd hi (Nat.not_lt_zero i)) (fun _ => ?_)
  · exact Wk.weak (ρ := []) (φ := []) (by simp)
  · simp

theorem n_markToneS (k : Int) : HFn Try.prog 60 [.nils, .int .i64 k] [] (.int .i64 k) [] := by
  refine hfn_intro hm Try.func60 (by kernel_rfl) rfl (by kernel_rfl) rfl ret0_ok ?_
  simp
  refine loop_upto hm 0 (fun _ => ⟨[(0, .nils), (1, .int .i64 k), (5, .int .i64 0)], []⟩) (fun _ => True) (by kernel_rfl) ?_ trivial (fun i hi _ => absurd hi (Nat.not_lt_zero i)) (fun _ => ?_)
  · exact Wk.weak (ρ := []) (φ := []) (by simp)
  · simp

theorem n_heldToneS (k : Int) : HFn Try.prog 65 [.nils, .int .i64 k] [] (.int .i64 k) [] := by
  refine hfn_intro hm Try.func65 (by kernel_rfl) rfl (by kernel_rfl) rfl ret0_ok ?_
  simp
  refine loop_upto hm 0 (fun _ => ⟨[(0, .nils), (1, .int .i64 k), (5, .int .i64 0)], []⟩) (fun _ => True) (by kernel_rfl) ?_ trivial (fun i hi _ => absurd hi (Nat.not_lt_zero i)) (fun _ => ?_)
  · exact Wk.weak (ρ := []) (φ := []) (by simp)
  · simp

theorem n_eqOrderS : HFn Try.prog 11 [.nils, .nils] [] (.bool true) [] := by
  refine hfn_intro hm Try.func11 (by kernel_rfl) rfl (by kernel_rfl) rfl ret0_ok ?_
  simp
  refine loop_upto hm 0 (fun _ => ⟨[(0, .nils), (1, .nils), (5, .int .i64 0)], []⟩) (fun _ => True) (by kernel_rfl) ?_ trivial (fun i hi _ => absurd hi (Nat.not_lt_zero i)) (fun _ => ?_)
  · exact Wk.weak (ρ := []) (φ := []) (by simp)
  · simp

theorem n_markOrderS (k : Int) : HFn Try.prog 14 [.nils, .int .i64 k] [] (.int .i64 k) [] := by
  refine hfn_intro hm Try.func14 (by kernel_rfl) rfl (by kernel_rfl) rfl ret0_ok ?_
  simp
  refine loop_upto hm 0 (fun _ => ⟨[(0, .nils), (1, .int .i64 k), (5, .int .i64 0)], []⟩) (fun _ => True) (by kernel_rfl) ?_ trivial (fun i hi _ => absurd hi (Nat.not_lt_zero i)) (fun _ => ?_)
  · exact Wk.weak (ρ := []) (φ := []) (by simp)
  · simp

theorem n_heldOrderS (k : Int) : HFn Try.prog 17 [.nils, .int .i64 k] [] (.int .i64 k) [] := by
  refine hfn_intro hm Try.func17 (by kernel_rfl) rfl (by kernel_rfl) rfl ret0_ok ?_
  simp
  refine loop_upto hm 0 (fun _ => ⟨[(0, .nils), (1, .int .i64 k), (5, .int .i64 0)], []⟩) (fun _ => True) (by kernel_rfl) ?_ trivial (fun i hi _ => absurd hi (Nat.not_lt_zero i)) (fun _ => ?_)
  · exact Wk.weak (ρ := []) (φ := []) (by simp)
  · simp

theorem n_eqRecordS : HFn Try.prog 12 [.nils, .nils] [] (.bool true) [] := by
  refine hfn_intro hm Try.func12 (by kernel_rfl) rfl (by kernel_rfl) rfl ret0_ok ?_
  simp
  refine loop_upto hm 0 (fun _ => ⟨[(0, .nils), (1, .nils), (5, .int .i64 0)], []⟩) (fun _ => True) (by kernel_rfl) ?_ trivial (fun i hi _ => absurd hi (Nat.not_lt_zero i)) (fun _ => ?_)
  · exact Wk.weak (ρ := []) (φ := []) (by simp)
  · simp

theorem n_markRecordS (k : Int) : HFn Try.prog 15 [.nils, .int .i64 k] [] (.int .i64 k) [] := by
  refine hfn_intro hm Try.func15 (by kernel_rfl) rfl (by kernel_rfl) rfl ret0_ok ?_
  simp
  refine loop_upto hm 0 (fun _ => ⟨[(0, .nils), (1, .int .i64 k), (5, .int .i64 0)], []⟩) (fun _ => True) (by kernel_rfl) ?_ trivial (fun i hi _ => absurd hi (Nat.not_lt_zero i)) (fun _ => ?_)
  · exact Wk.weak (ρ := []) (φ := []) (by simp)
  · simp

theorem n_heldRecordS (k : Int) : HFn Try.prog 18 [.nils, .int .i64 k] [] (.int .i64 k) [] := by
  refine hfn_intro hm Try.func18 (by kernel_rfl) rfl (by kernel_rfl) rfl ret0_ok ?_
  simp
  refine loop_upto hm 0 (fun _ => ⟨[(0, .nils), (1, .int .i64 k), (5, .int .i64 0)], []⟩) (fun _ => True) (by kernel_rfl) ?_ trivial (fun i hi _ => absurd hi (Nat.not_lt_zero i)) (fun _ => ?_)
  · exact Wk.weak (ρ := []) (φ := []) (by simp)
  · simp

set_option maxHeartbeats 1000000 in
theorem n_eqChamber : HFn Try.prog 23 [.agg [.int .i64 20000, .int .i64 20000, .int .i64 5000], .agg [.int .i64 20000, .int .i64 20000, .int .i64 5000]] [] (.bool true) [] := by
  refine hfn_intro hm Try.func23 (by kernel_rfl) rfl (by kernel_rfl) rfl ret0_ok ?_
  simp

set_option maxHeartbeats 1000000 in
theorem n_eqTower : HFn Try.prog 25 [.agg [.str [111, 108, 100], .int .i64 2500, .int .i64 50, .int .i64 5000, .int .i64 100000], .agg [.str [111, 108, 100], .int .i64 2500, .int .i64 50, .int .i64 5000, .int .i64 100000]] [] (.bool true) [] := by
  refine hfn_intro hm Try.func25 (by kernel_rfl) rfl (by kernel_rfl) rfl ret0_ok ?_
  simp

set_option maxHeartbeats 1000000 in
theorem n_eqTune : HFn Try.prog 28 [.agg [.str [115, 111, 110, 103], .nils], .agg [.str [115, 111, 110, 103], .nils]] [] (.bool true) [] := by
  refine hfn_intro hm Try.func28 (by kernel_rfl) rfl (by kernel_rfl) rfl ret0_ok ?_
  simp
  refine CallZ.use0 n_eqToneS rfl rfl ?_
  simp

set_option maxHeartbeats 1000000 in
theorem n_eqCarillon : HFn Try.prog 10 [.agg [.nils, .nils, .nils, .nils, .int .i64 20000, .int .i64 20000, .int .i64 5000, .nils, .int .i64 0, .str [111, 108, 100], .int .i64 2500, .int .i64 50, .int .i64 5000, .int .i64 100000, .nils, .int .i64 20000, .int .i64 40000, .nils, .str [115, 111, 110, 103], .nils], .agg [.nils, .nils, .nils, .nils, .int .i64 20000, .int .i64 20000, .int .i64 5000, .nils, .int .i64 0, .str [111, 108, 100], .int .i64 2500, .int .i64 50, .int .i64 5000, .int .i64 100000, .nils, .int .i64 20000, .int .i64 40000, .nils, .str [115, 111, 110, 103], .nils]] [] (.bool true) [] := by
  refine hfn_intro hm Try.func10 (by kernel_rfl) rfl (by kernel_rfl) rfl ret0_ok ?_
  simp
  refine CallZ.use0 n_eqIngotS rfl rfl ?_
  simp
  refine CallZ.use0 n_eqMeltS rfl rfl ?_
  simp
  refine CallZ.use0 n_eqBellS rfl rfl ?_
  simp
  refine CallZ.use0 n_eqHungS rfl rfl ?_
  simp
  refine CallZ.use0 n_eqChamber rfl rfl ?_
  simp
  refine CallZ.use0 n_eqPlaceS rfl rfl ?_
  simp
  refine CallZ.use0 n_eqTower rfl rfl ?_
  simp
  refine CallZ.use0 n_eqBeamS rfl rfl ?_
  simp
  refine CallZ.use0 n_eqActionS rfl rfl ?_
  simp
  refine CallZ.use0 n_eqTune rfl rfl ?_
  simp

set_option maxHeartbeats 1000000 in
theorem n_eqDesk : HFn Try.prog 6 [.agg [.nils, .nils, .nils, .nils, .int .i64 20000, .int .i64 20000, .int .i64 5000, .nils, .int .i64 0, .str [111, 108, 100], .int .i64 2500, .int .i64 50, .int .i64 5000, .int .i64 100000, .nils, .int .i64 20000, .int .i64 40000, .nils, .str [115, 111, 110, 103], .nils, .nils, .nils], .agg [.nils, .nils, .nils, .nils, .int .i64 20000, .int .i64 20000, .int .i64 5000, .nils, .int .i64 0, .str [111, 108, 100], .int .i64 2500, .int .i64 50, .int .i64 5000, .int .i64 100000, .nils, .int .i64 20000, .int .i64 40000, .nils, .str [115, 111, 110, 103], .nils, .nils, .nils]] [] (.bool true) [] := by
  refine hfn_intro hm Try.func6 (by kernel_rfl) rfl (by kernel_rfl) rfl ret0_ok ?_
  simp
  refine CallZ.use0 n_eqCarillon rfl rfl ?_
  simp
  refine CallZ.use0 n_eqOrderS rfl rfl ?_
  simp
  refine CallZ.use0 n_eqRecordS rfl rfl ?_
  simp

set_option maxHeartbeats 1000000 in
theorem n_markTune : HFn Try.prog 38 [.agg [.str [115, 111, 110, 103], .nils], .int .i64 1] [] (.int .i64 1) [] := by
  refine hfn_intro hm Try.func38 (by kernel_rfl) rfl (by kernel_rfl) rfl ret0_ok ?_
  simp
  refine CallZ.use0 (n_markToneS 1) rfl rfl ?_
  simp

set_option maxHeartbeats 1000000 in
theorem n_markCarillon : HFn Try.prog 13 [.agg [.nils, .nils, .nils, .nils, .int .i64 20000, .int .i64 20000, .int .i64 5000, .nils, .int .i64 0, .str [111, 108, 100], .int .i64 2500, .int .i64 50, .int .i64 5000, .int .i64 100000, .nils, .int .i64 20000, .int .i64 40000, .nils, .str [115, 111, 110, 103], .nils], .int .i64 1] [] (.int .i64 1) [] := by
  refine hfn_intro hm Try.func13 (by kernel_rfl) rfl (by kernel_rfl) rfl ret0_ok ?_
  simp
  refine CallZ.use0 (n_markIngotS 1) rfl rfl ?_
  simp
  refine CallZ.use0 (n_markMeltS 1) rfl rfl ?_
  simp
  refine CallZ.use0 (n_markBellS 1) rfl rfl ?_
  simp
  refine CallZ.use0 (n_markHungS 1) rfl rfl ?_
  simp
  refine CallZ.use0 (n_markPlaceS 1) rfl rfl ?_
  simp
  refine CallZ.use0 (n_markBeamS 1) rfl rfl ?_
  simp
  refine CallZ.use0 (n_markActionS 1) rfl rfl ?_
  simp
  refine CallZ.use0 n_markTune rfl rfl ?_
  simp

set_option maxHeartbeats 1000000 in
theorem n_markDesk : HFn Try.prog 7 [.agg [.nils, .nils, .nils, .nils, .int .i64 20000, .int .i64 20000, .int .i64 5000, .nils, .int .i64 0, .str [111, 108, 100], .int .i64 2500, .int .i64 50, .int .i64 5000, .int .i64 100000, .nils, .int .i64 20000, .int .i64 40000, .nils, .str [115, 111, 110, 103], .nils, .nils, .nils], .int .i64 1] [] (.int .i64 1) [] := by
  refine hfn_intro hm Try.func7 (by kernel_rfl) rfl (by kernel_rfl) rfl ret0_ok ?_
  simp
  refine CallZ.use0 n_markCarillon rfl rfl ?_
  simp
  refine CallZ.use0 (n_markOrderS 1) rfl rfl ?_
  simp
  refine CallZ.use0 (n_markRecordS 1) rfl rfl ?_
  simp

set_option maxHeartbeats 1000000 in
theorem n_heldTune : HFn Try.prog 47 [.agg [.str [115, 111, 110, 103], .nils], .int .i64 1] [] (.int .i64 1) [] := by
  refine hfn_intro hm Try.func47 (by kernel_rfl) rfl (by kernel_rfl) rfl ret0_ok ?_
  simp
  refine CallZ.use0 (n_heldToneS 1) rfl rfl ?_
  simp

set_option maxHeartbeats 1000000 in
theorem n_heldCarillon : HFn Try.prog 16 [.agg [.nils, .nils, .nils, .nils, .int .i64 20000, .int .i64 20000, .int .i64 5000, .nils, .int .i64 0, .str [111, 108, 100], .int .i64 2500, .int .i64 50, .int .i64 5000, .int .i64 100000, .nils, .int .i64 20000, .int .i64 40000, .nils, .str [115, 111, 110, 103], .nils], .int .i64 1] [] (.int .i64 1) [] := by
  refine hfn_intro hm Try.func16 (by kernel_rfl) rfl (by kernel_rfl) rfl ret0_ok ?_
  simp
  refine CallZ.use0 (n_heldIngotS 1) rfl rfl ?_
  simp
  refine CallZ.use0 (n_heldMeltS 1) rfl rfl ?_
  simp
  refine CallZ.use0 (n_heldBellS 1) rfl rfl ?_
  simp
  refine CallZ.use0 (n_heldHungS 1) rfl rfl ?_
  simp
  refine CallZ.use0 (n_heldPlaceS 1) rfl rfl ?_
  simp
  refine CallZ.use0 (n_heldBeamS 1) rfl rfl ?_
  simp
  refine CallZ.use0 (n_heldActionS 1) rfl rfl ?_
  simp
  refine CallZ.use0 n_heldTune rfl rfl ?_
  simp

set_option maxHeartbeats 1000000 in
theorem n_heldDesk : HFn Try.prog 8 [.agg [.nils, .nils, .nils, .nils, .int .i64 20000, .int .i64 20000, .int .i64 5000, .nils, .int .i64 0, .str [111, 108, 100], .int .i64 2500, .int .i64 50, .int .i64 5000, .int .i64 100000, .nils, .int .i64 20000, .int .i64 40000, .nils, .str [115, 111, 110, 103], .nils, .nils, .nils], .int .i64 1] [] (.int .i64 1) [] := by
  refine hfn_intro hm Try.func8 (by kernel_rfl) rfl (by kernel_rfl) rfl ret0_ok ?_
  simp
  refine CallZ.use0 n_heldCarillon rfl rfl ?_
  simp
  refine CallZ.use0 (n_heldOrderS 1) rfl rfl ?_
  simp
  refine CallZ.use0 (n_heldRecordS 1) rfl rfl ?_
  simp

set_option maxHeartbeats 1000000 in
theorem n_impl_NewDesk : HFn Try.prog 5 [] [] (.agg [.nils, .nils, .nils, .nils, .int .i64 20000, .int .i64 20000, .int .i64 5000, .nils, .int .i64 0, .str [111, 108, 100], .int .i64 2500, .int .i64 50, .int .i64 5000, .int .i64 100000, .nils, .int .i64 20000, .int .i64 40000, .nils, .str [115, 111, 110, 103], .nils, .nils, .nils]) [] := by
  refine hfn_intro hm Try.func5 (by kernel_rfl) rfl (by kernel_rfl) rfl ret0_ok ?_
  simp

set_option maxHeartbeats 1000000 in
theorem n_spec_l32New : HFn Try.prog 9 [] [] (.agg [.nils, .nils, .nils, .nils, .int .i64 20000, .int .i64 20000, .int .i64 5000, .nils, .int .i64 0, .str [111, 108, 100], .int .i64 2500, .int .i64 50, .int .i64 5000, .int .i64 100000, .nils, .int .i64 20000, .int .i64 40000, .nils, .str [115, 111, 110, 103], .nils, .nils, .nils]) [] := by
  refine hfn_intro hm Try.func9 (by kernel_rfl) rfl (by kernel_rfl) rfl ret0_ok ?_
  simp

set_option maxHeartbeats 1000000 in
theorem n_spec_NewDesk : HFn Try.prog 4 [] [] (.agg [.nils, .nils, .nils, .nils, .int .i64 20000, .int .i64 20000, .int .i64 5000, .nils, .int .i64 0, .str [111, 108, 100], .int .i64 2500, .int .i64 50, .int .i64 5000, .int .i64 100000, .nils, .int .i64 20000, .int .i64 40000, .nils, .str [115, 111, 110, 103], .nils, .nils, .nils]) [] := by
  refine hfn_intro hm Try.func4 (by kernel_rfl) rfl (by kernel_rfl) rfl ret0_ok ?_
  simp
  refine CallZ.use0 n_spec_l32New rfl rfl ?_
  simp

set_option maxHeartbeats 1000000 in
theorem n_FnExactNewDesk : HFn Try.prog 3 [] [] (.bool true) [] := by
  refine hfn_intro hm Try.func3 (by kernel_rfl) rfl (by kernel_rfl) rfl ret0_ok ?_
  simp
  refine CallZ.use0 n_spec_NewDesk rfl rfl ?_
  simp
  refine CallZ.use0 n_impl_NewDesk rfl rfl ?_
  simp
  refine CallZ.use0 n_eqDesk rfl rfl ?_
  simp
  refine CallZ.use0 n_markDesk rfl rfl ?_
  simp
  refine CallZ.use0 n_heldDesk rfl rfl ?_
  simp
  refine CallZ.use0 n_impl_NewDesk rfl rfl ?_
  simp
  refine CallZ.use0 n_eqDesk rfl rfl ?_
  simp
  refine CallZ.use0 n_heldDesk rfl rfl ?_
  simp

theorem l_FnExactNewDesk (pargs : List PV) (h : fitsAll [] pargs) : HFn Try.prog 3 pargs [] (.bool true) [] := by
  obtain rfl := fitsAll_nil h
  exact n_FnExactNewDesk
end Go.Proofs.Ytlfhelfbgbajmaa
