/- Contracts: structs that hold a slice compared by the reference, through pointers. No condition. -/
import Derived.Test.YtnfjkfjbhdlphaaGreatTNest
namespace Go.Proofs.YtnfjkfjbhdlphaaGreat
open Go Go.Ab
set_option maxRecDepth 100000

set_option maxHeartbeats 1000000 in
theorem c_l18Same (a b : Bell) (ra rb : List (List PV)) (i j : Nat) (h1 : ra[i]? = some a.cells) (h2 : rb[j]? = some b.cells) (ha : a.shares.length ≤ 9223372036854775807) : HFn Tryz.prog 160 [.pe 5 ra i 0, .pe 5 rb j 0] [] (.bool (decide (a = b))) [] := by
  have hia : i < ra.length := (List.getElem?_eq_some_iff.1 h1).1
  have hjb : j < rb.length := (List.getElem?_eq_some_iff.1 h2).1
  have ga : ra[i] = a.cells := (List.getElem?_eq_some_iff.1 h1).2
  have gb : rb[j] = b.cells := (List.getElem?_eq_some_iff.1 h2).2
  refine hfn_intro hm Tryz.func160 (by kernel_rfl) rfl (by kernel_rfl) rfl ret0_ok ?_
  by_cases e0 : a.id = b.id
  rotate_left
  · simp [hia, hjb, ga, gb, Bell.cells, Share.rows_len, Bell.eq_iff, e0]
  by_cases e1 : a.note = b.note
  rotate_left
  · simp [hia, hjb, ga, gb, Bell.cells, Share.rows_len, Bell.eq_iff, e0, e1]
  by_cases e2 : a.mass = b.mass
  rotate_left
  · simp [hia, hjb, ga, gb, Bell.cells, Share.rows_len, Bell.eq_iff, e0, e1, e2]
  by_cases e3 : a.feed = b.feed
  rotate_left
  · simp [hia, hjb, ga, gb, Bell.cells, Share.rows_len, Bell.eq_iff, e0, e1, e2, e3]
  by_cases el : a.shares.length = b.shares.length
  rotate_left
  · have en : ¬ a.shares = b.shares := fun e => el (by rw [e])
    have eli : ¬ ((a.shares.length : Int) = b.shares.length) := by omega
    simp [hia, hjb, ga, gb, Bell.cells, Share.rows_len, Bell.eq_iff, e0, e1, e2, e3, eli, en]
  have eli : (a.shares.length : Int) = b.shares.length := by omega
  simp [hia, hjb, ga, gb, Bell.cells, Share.rows_len, e0, e1, e2, e3, eli]
  refine loop_upto hm a.shares.length (fun k => ⟨[(0, .pe 5 ra i 0), (1, .pe 5 rb j 0), (5, .int .i64 k)], []⟩) (fun k => a.shares.take k = b.shares.take k) (by kernel_rfl) ?_ (by simp) (fun k hk hI => ?_) (fun hI => ?_)
  · exact Wk.weak (ρ := []) (φ := []) (by simp)
  · have ea := List.getElem?_eq_getElem hk
    have hk' : k < b.shares.length := by omega
    have eb := List.getElem?_eq_getElem hk'
    have hkb : (k : Int) < b.shares.length := by omega
    simp [hia, hjb, ga, gb, Bell.cells, Share.rows, Share.cells, hk, hk', hkb, eli]
    refine ⟨fun h e => ?_, fun q0 q1 => ⟨take_succ_eq hI ea eb (Share.eq_iff.2 ⟨q0, q1⟩), ?_⟩⟩
    · subst e; simp at h
    · refine Wk.weak (ρ := []) (φ := []) ?_
      simp
      exact w64 (by omega) (by omega)
  · have es : a.shares = b.shares := eq_of_take hI el
    simp [hia, hjb, ga, gb, Bell.cells, Share.rows_len, Bell.eq_iff, e0, e1, e2, e3, es]

set_option maxHeartbeats 1000000 in
theorem c_l21Same (a b : Beam) (ra rb : List (List PV)) (i j : Nat) (h1 : ra[i]? = some a.cells) (h2 : rb[j]? = some b.cells) (ha : a.loads.length ≤ 9223372036854775807) : HFn Tryz.prog 162 [.pe 6 ra i 0, .pe 6 rb j 0] [] (.bool (decide (a = b))) [] := by
  have hia : i < ra.length := (List.getElem?_eq_some_iff.1 h1).1
  have hjb : j < rb.length := (List.getElem?_eq_some_iff.1 h2).1
  have ga : ra[i] = a.cells := (List.getElem?_eq_some_iff.1 h1).2
  have gb : rb[j] = b.cells := (List.getElem?_eq_some_iff.1 h2).2
  refine hfn_intro hm Tryz.func162 (by kernel_rfl) rfl (by kernel_rfl) rfl ret0_ok ?_
  by_cases e0 : a.name = b.name
  rotate_left
  · simp [hia, hjb, ga, gb, Beam.cells, Load.rows_len, Beam.eq_iff, e0]
  by_cases e1 : a.span = b.span
  rotate_left
  · simp [hia, hjb, ga, gb, Beam.cells, Load.rows_len, Beam.eq_iff, e0, e1]
  by_cases e2 : a.width = b.width
  rotate_left
  · simp [hia, hjb, ga, gb, Beam.cells, Load.rows_len, Beam.eq_iff, e0, e1, e2]
  by_cases e3 : a.depth = b.depth
  rotate_left
  · simp [hia, hjb, ga, gb, Beam.cells, Load.rows_len, Beam.eq_iff, e0, e1, e2, e3]
  by_cases e4 : a.wood = b.wood
  rotate_left
  · simp [hia, hjb, ga, gb, Beam.cells, Load.rows_len, Beam.eq_iff, e0, e1, e2, e3, e4]
  by_cases el : a.loads.length = b.loads.length
  rotate_left
  · have en : ¬ a.loads = b.loads := fun e => el (by rw [e])
    have eli : ¬ ((a.loads.length : Int) = b.loads.length) := by omega
    simp [hia, hjb, ga, gb, Beam.cells, Load.rows_len, Beam.eq_iff, e0, e1, e2, e3, e4, eli, en]
  have eli : (a.loads.length : Int) = b.loads.length := by omega
  simp [hia, hjb, ga, gb, Beam.cells, Load.rows_len, e0, e1, e2, e3, e4, eli]
  refine loop_upto hm a.loads.length (fun k => ⟨[(0, .pe 6 ra i 0), (1, .pe 6 rb j 0), (5, .int .i64 k)], []⟩) (fun k => a.loads.take k = b.loads.take k) (by kernel_rfl) ?_ (by simp) (fun k hk hI => ?_) (fun hI => ?_)
  · exact Wk.weak (ρ := []) (φ := []) (by simp)
  · have ea := List.getElem?_eq_getElem hk
    have hk' : k < b.loads.length := by omega
    have eb := List.getElem?_eq_getElem hk'
    have hkb : (k : Int) < b.loads.length := by omega
    simp [hia, hjb, ga, gb, Beam.cells, Load.rows, Load.cells, hk, hk', hkb, eli]
    refine ⟨fun h e => ?_, fun q0 q1 => ⟨take_succ_eq hI ea eb (Load.eq_iff.2 ⟨q0, q1⟩), ?_⟩⟩
    · subst e; simp at h
    · refine Wk.weak (ρ := []) (φ := []) ?_
      simp
      exact w64 (by omega) (by omega)
  · have es : a.loads = b.loads := eq_of_take hI el
    simp [hia, hjb, ga, gb, Beam.cells, Load.rows_len, Beam.eq_iff, e0, e1, e2, e3, e4, es]

set_option maxHeartbeats 1000000 in
theorem c_l24Same (a b : Action) (ra rb : List (List PV)) (i j : Nat) (h1 : ra[i]? = some a.cells) (h2 : rb[j]? = some b.cells) (ha : a.levers.length ≤ 9223372036854775807) : HFn Tryz.prog 90 [.pe 4 ra i 0, .pe 4 rb j 0] [] (.bool (decide (a = b))) [] := by
  have hia : i < ra.length := (List.getElem?_eq_some_iff.1 h1).1
  have hjb : j < rb.length := (List.getElem?_eq_some_iff.1 h2).1
  have ga : ra[i] = a.cells := (List.getElem?_eq_some_iff.1 h1).2
  have gb : rb[j] = b.cells := (List.getElem?_eq_some_iff.1 h2).2
  refine hfn_intro hm Tryz.func90 (by kernel_rfl) rfl (by kernel_rfl) rfl ret0_ok ?_
  by_cases e0 : a.note = b.note
  rotate_left
  · simp [hia, hjb, ga, gb, Action.cells, Lever.rows_len, Action.eq_iff, e0]
  by_cases e1 : a.slack = b.slack
  rotate_left
  · simp [hia, hjb, ga, gb, Action.cells, Lever.rows_len, Action.eq_iff, e0, e1]
  by_cases e2 : a.weight = b.weight
  rotate_left
  · simp [hia, hjb, ga, gb, Action.cells, Lever.rows_len, Action.eq_iff, e0, e1, e2]
  by_cases el : a.levers.length = b.levers.length
  rotate_left
  · have en : ¬ a.levers = b.levers := fun e => el (by rw [e])
    have eli : ¬ ((a.levers.length : Int) = b.levers.length) := by omega
    simp [hia, hjb, ga, gb, Action.cells, Lever.rows_len, Action.eq_iff, e0, e1, e2, eli, en]
  have eli : (a.levers.length : Int) = b.levers.length := by omega
  simp [hia, hjb, ga, gb, Action.cells, Lever.rows_len, e0, e1, e2, eli]
  refine loop_upto hm a.levers.length (fun k => ⟨[(0, .pe 4 ra i 0), (1, .pe 4 rb j 0), (5, .int .i64 k)], []⟩) (fun k => a.levers.take k = b.levers.take k) (by kernel_rfl) ?_ (by simp) (fun k hk hI => ?_) (fun hI => ?_)
  · exact Wk.weak (ρ := []) (φ := []) (by simp)
  · have ea := List.getElem?_eq_getElem hk
    have hk' : k < b.levers.length := by omega
    have eb := List.getElem?_eq_getElem hk'
    have hkb : (k : Int) < b.levers.length := by omega
    simp [hia, hjb, ga, gb, Action.cells, Lever.rows, Lever.cells, hk, hk', hkb, eli]
    refine ⟨fun h e => ?_, fun q0 q1 => ⟨take_succ_eq hI ea eb (Lever.eq_iff.2 ⟨q0, q1⟩), ?_⟩⟩
    · subst e; simp at h
    · refine Wk.weak (ρ := []) (φ := []) ?_
      simp
      exact w64 (by omega) (by omega)
  · have es : a.levers = b.levers := eq_of_take hI el
    simp [hia, hjb, ga, gb, Action.cells, Lever.rows_len, Action.eq_iff, e0, e1, e2, es]

set_option maxHeartbeats 1000000 in
theorem c_l25Same (a b : Tune) (ra rb : List (List PV)) (i j : Nat) (h1 : ra[i]? = some a.cells) (h2 : rb[j]? = some b.cells) (ha : a.tones.length ≤ 9223372036854775807) : HFn Tryz.prog 161 [.pe 2 ra i 0, .pe 2 rb j 0] [] (.bool (decide (a = b))) [] := by
  have hia : i < ra.length := (List.getElem?_eq_some_iff.1 h1).1
  have hjb : j < rb.length := (List.getElem?_eq_some_iff.1 h2).1
  have ga : ra[i] = a.cells := (List.getElem?_eq_some_iff.1 h1).2
  have gb : rb[j] = b.cells := (List.getElem?_eq_some_iff.1 h2).2
  refine hfn_intro hm Tryz.func161 (by kernel_rfl) rfl (by kernel_rfl) rfl ret0_ok ?_
  by_cases e0 : a.name = b.name
  rotate_left
  · simp [hia, hjb, ga, gb, Tune.cells, Tone.rows_len, Tune.eq_iff, e0]
  by_cases el : a.tones.length = b.tones.length
  rotate_left
  · have en : ¬ a.tones = b.tones := fun e => el (by rw [e])
    have eli : ¬ ((a.tones.length : Int) = b.tones.length) := by omega
    simp [hia, hjb, ga, gb, Tune.cells, Tone.rows_len, Tune.eq_iff, e0, eli, en]
  have eli : (a.tones.length : Int) = b.tones.length := by omega
  simp [hia, hjb, ga, gb, Tune.cells, Tone.rows_len, e0, eli]
  refine loop_upto hm a.tones.length (fun k => ⟨[(0, .pe 2 ra i 0), (1, .pe 2 rb j 0), (5, .int .i64 k)], []⟩) (fun k => a.tones.take k = b.tones.take k) (by kernel_rfl) ?_ (by simp) (fun k hk hI => ?_) (fun hI => ?_)
  · exact Wk.weak (ρ := []) (φ := []) (by simp)
  · have ea := List.getElem?_eq_getElem hk
    have hk' : k < b.tones.length := by omega
    have eb := List.getElem?_eq_getElem hk'
    have hkb : (k : Int) < b.tones.length := by omega
    simp [hia, hjb, ga, gb, Tune.cells, Tone.rows, Tone.cells, hk, hk', hkb, eli]
    refine ⟨fun h e => ?_, fun q0 q1 q2 => ⟨take_succ_eq hI ea eb (Tone.eq_iff.2 ⟨q0, q1, q2⟩), ?_⟩⟩
    · subst e; simp at h
    · refine Wk.weak (ρ := []) (φ := []) ?_
      simp
      exact w64 (by omega) (by omega)
  · have es : a.tones = b.tones := eq_of_take hI el
    simp [hia, hjb, ga, gb, Tune.cells, Tone.rows_len, Tune.eq_iff, e0, es]

end Go.Proofs.YtnfjkfjbhdlphaaGreat
