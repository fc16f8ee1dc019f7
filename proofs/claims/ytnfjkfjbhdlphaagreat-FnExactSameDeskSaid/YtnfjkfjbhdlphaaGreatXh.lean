/- Contract: carillons compared by the reference. No condition. -/
import Derived.Test.YtnfjkfjbhdlphaaGreatXg
namespace Go.Proofs.YtnfjkfjbhdlphaaGreat
open Go Go.Ab
set_option maxRecDepth 100000

set_option maxHeartbeats 16000000 in
theorem c_l32Same (a b : Carillon) (oa ob : List Order) (sa sb : List Record) (ra rb : List (List PV)) (i0 j0 : Nat) (h1 : ra[i0]? = some (Desk.mk a oa sa).cells) (h2 : rb[j0]? = some (Desk.mk b ob sb).cells) (hw : a.wf) : HFn Tryz.prog 20 [.pe 22 ra i0 0, .pe 22 rb j0 0] [] (.bool (decide (a = b))) [] := by
  have hia : i0 < ra.length := (List.getElem?_eq_some_iff.1 h1).1
  have hjb : j0 < rb.length := (List.getElem?_eq_some_iff.1 h2).1
  have ga : ra[i0] = (Desk.mk a oa sa).cells := (List.getElem?_eq_some_iff.1 h1).2
  have gb : rb[j0] = (Desk.mk b ob sb).cells := (List.getElem?_eq_some_iff.1 h2).2
  simp only [Desk.cells] at h1 h2 ga gb
  have b0 := hw.ingots.1
  have b1 := hw.hung.1
  have b2 := hw.places.1
  have b3 := hw.frame.1
  have b4 := hw.clavier.1
  refine hfn_intro hm Tryz.func20 (by kernel_rfl) rfl (by kernel_rfl) rfl ret0_ok ?_
  simp (maxSteps := 3000000) [hia, hjb, ga, gb, Ingot.rows_len, Hung.rows_len, Place.rows_len, Beam.rows_len, Action.rows_len]
  have kM := c_spec_SameMelts a.melts b.melts hw.melts.1 hw.melts.2
  have kB := c_spec_SameBells a.bells b.bells hw.bells.1 hw.bells.2
  have kT := c_spec_SameTune a.tune b.tune hw.tune.tones.1
  simp only [Tune.cells] at kT
  repeat refine ⟨by grind, ?_⟩
  first | refine ⟨fun h e => by subst e; simp at h, fun l0 l1 l2 l3 l4 => ?_⟩ | refine fun l0 l1 l2 l3 l4 => ?_
  repeat refine ⟨by grind, ?_⟩
  refine CallY.use (fun _ => ⟨rfl, kM⟩) rfl rfl ?_
  simp (maxSteps := 3000000) [hia, hjb, ga, gb]
  repeat refine ⟨by grind, ?_⟩
  refine CallY.use (fun _ => ⟨rfl, kB⟩) rfl rfl ?_
  simp (maxSteps := 3000000) [hia, hjb, ga, gb]
  repeat refine ⟨by grind, ?_⟩
  refine CallY.use (fun _ => ⟨rfl, kT⟩) rfl rfl ?_
  simp (maxSteps := 3000000)
  repeat refine ⟨by grind, ?_⟩
  first | refine ⟨fun h e => by subst e; simp at h, fun s0 s1 s2 s3 s4 s5 s6 s7 s8 s9 s10 m0 m1 m2 => ?_⟩ | refine fun s0 s1 s2 s3 s4 s5 s6 s7 s8 s9 s10 m0 m1 m2 => ?_
  refine loop_upto hm a.ingots.length (fun i => ⟨[(0, .pe 22 ra i0 0), (1, .pe 22 rb j0 0), (5, .int .i64 i)], []⟩) (fun i => a.ingots.take i = b.ingots.take i) (by kernel_rfl) ?_ (by simp) (fun i hi hI => ?_) (fun hI => ?_)
  · exact Wk.weak (ρ := []) (φ := []) (by simp)
  · have ea := List.getElem?_eq_getElem hi
    have hi' : i < b.ingots.length := by omega
    have eb := List.getElem?_eq_getElem hi'
    simp [hia, hjb, ga, gb, Ingot.rows, Ingot.cells, hi, hi']
    refine ⟨fun h e => ?_, fun q0 q1 q2 q3 q4 => ⟨take_succ_eq hI ea eb (Ingot.eq_iff.2 ⟨q0, q1, q2, q3, q4⟩), ?_⟩⟩
    · subst e; simp at h
    · refine Wk.weak (ρ := []) (φ := []) ?_
      simp
      exact w64 (by clear ga gb h1 h2; omega) (by clear ga gb h1 h2; omega)
  have x0 : a.ingots = b.ingots := eq_of_take hI (by omega)
  simp [hia, hjb, ga, gb, Ingot.rows_len]
  refine loop_upto hm a.hung.length (fun i => ⟨[(0, .pe 22 ra i0 0), (1, .pe 22 rb j0 0), (6, .int .i64 i)], []⟩) (fun i => a.hung.take i = b.hung.take i) (by kernel_rfl) ?_ (by simp) (fun i hi hI => ?_) (fun hI => ?_)
  · exact Wk.weak (ρ := []) (φ := []) (by simp)
  · have ea := List.getElem?_eq_getElem hi
    have hi' : i < b.hung.length := by omega
    have eb := List.getElem?_eq_getElem hi'
    simp [hia, hjb, ga, gb, Hung.rows, Hung.cells, hi, hi']
    refine ⟨fun h e => ?_, fun q0 q1 q2 q3 q4 => ⟨take_succ_eq hI ea eb (Hung.eq_iff.2 ⟨q0, q1, q2, q3, q4⟩), ?_⟩⟩
    · subst e; simp at h
    · refine Wk.weak (ρ := []) (φ := []) ?_
      simp
      exact w64 (by clear ga gb h1 h2; omega) (by clear ga gb h1 h2; omega)
  have x1 : a.hung = b.hung := eq_of_take hI (by omega)
  simp [hia, hjb, ga, gb, Hung.rows_len]
  refine loop_upto hm a.places.length (fun i => ⟨[(0, .pe 22 ra i0 0), (1, .pe 22 rb j0 0), (7, .int .i64 i)], []⟩) (fun i => a.places.take i = b.places.take i) (by kernel_rfl) ?_ (by simp) (fun i hi hI => ?_) (fun hI => ?_)
  · exact Wk.weak (ρ := []) (φ := []) (by simp)
  · have ea := List.getElem?_eq_getElem hi
    have hi' : i < b.places.length := by omega
    have eb := List.getElem?_eq_getElem hi'
    simp [hia, hjb, ga, gb, Place.rows, Place.cells, hi, hi']
    refine ⟨fun h e => ?_, fun q0 q1 q2 q3 q4 => ⟨take_succ_eq hI ea eb (Place.eq_iff.2 ⟨q0, q1, q2, q3, q4⟩), ?_⟩⟩
    · subst e; simp at h
    · refine Wk.weak (ρ := []) (φ := []) ?_
      simp
      exact w64 (by clear ga gb h1 h2; omega) (by clear ga gb h1 h2; omega)
  have x2 : a.places = b.places := eq_of_take hI (by omega)
  simp [hia, hjb, ga, gb, Place.rows_len]
  refine loop_upto hm a.frame.length (fun i => ⟨[(0, .pe 22 ra i0 0), (1, .pe 22 rb j0 0), (8, .int .i64 i)], []⟩) (fun i => a.frame.take i = b.frame.take i) (by kernel_rfl) ?_ (by simp) (fun i hi hI => ?_) (fun hI => ?_)
  · exact Wk.weak (ρ := []) (φ := []) (by simp)
  · have ea := List.getElem?_eq_getElem hi
    have hi' : i < b.frame.length := by omega
    have eb := List.getElem?_eq_getElem hi'
    have k1 := c_spec_SameBeam a.frame[i] b.frame[i] (hw.frame.2 _ (List.getElem_mem hi)).loads.1
    simp only [Beam.cells] at k1
    simp [hia, hjb, ga, gb, Beam.rows_len, Beam.row_get, Beam.cells, hi, hi']
    refine CallZ.use0 k1 rfl rfl ?_
    simp
    refine ⟨fun h e => ?_, fun h => ⟨take_succ_eq hI ea eb h, ?_⟩⟩
    · subst e; simp at h
    · refine Wk.weak (ρ := []) (φ := []) ?_
      simp
      exact w64 (by clear ga gb h1 h2; omega) (by clear ga gb h1 h2; omega)
  have x3 : a.frame = b.frame := eq_of_take hI (by omega)
  simp [hia, hjb, ga, gb, Beam.rows_len]
  refine loop_upto hm a.clavier.length (fun i => ⟨[(0, .pe 22 ra i0 0), (1, .pe 22 rb j0 0), (9, .int .i64 i)], []⟩) (fun i => a.clavier.take i = b.clavier.take i) (by kernel_rfl) ?_ (by simp) (fun i hi hI => ?_) (fun hI => ?_)
  · exact Wk.weak (ρ := []) (φ := []) (by simp)
  · have ea := List.getElem?_eq_getElem hi
    have hi' : i < b.clavier.length := by omega
    have eb := List.getElem?_eq_getElem hi'
    have k1 := c_l24Same a.clavier[i] b.clavier[i] (Action.rows a.clavier) (Action.rows b.clavier) i i (by simp [Action.rows, hi]) (by simp [Action.rows, hi']) (hw.clavier.2 _ (List.getElem_mem hi)).levers.1
    simp [hia, hjb, ga, gb, Action.rows_len, hi, hi']
    refine CallZ.use0 k1 rfl rfl ?_
    simp
    refine ⟨fun h e => ?_, fun h => ⟨take_succ_eq hI ea eb h, ?_⟩⟩
    · subst e; simp at h
    · refine Wk.weak (ρ := []) (φ := []) ?_
      simp
      exact w64 (by clear ga gb h1 h2; omega) (by clear ga gb h1 h2; omega)
  have x4 : a.clavier = b.clavier := eq_of_take hI (by omega)
  simp [hia, hjb, ga, gb, Action.rows_len]
  exact Carillon.eq_iff.2 ⟨x0, m0, m1, x1, Chamber.eq_iff.2 ⟨s0, s1, s2⟩, x2, s3, Tower.eq_iff.2 ⟨s4, s5, s6, s7, s8⟩, x3, s9, s10, x4, m2⟩
end Go.Proofs.YtnfjkfjbhdlphaaGreat
