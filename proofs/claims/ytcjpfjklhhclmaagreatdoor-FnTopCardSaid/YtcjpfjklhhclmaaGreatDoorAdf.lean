/- Contracts: the law on carillons that the audit passes. No condition. -/
import Derived.Test.YtcjpfjklhhclmaaGreatDoorAdd
namespace Go.Proofs.YtcjpfjklhhclmaaGreatDoor
open Go Go.Ab
set_option maxRecDepth 100000

/-! ### A chamber that is a variable of its own -/
theorem c_l23Chamber0 (c : Chamber) : HFn Tryz.prog 42 [.pe 3 [c.cells] 0 0] [] (.bool (chamberOk c)) [] := by
  refine hfn_intro hm Tryz.func42 (by kernel_rfl) rfl (by kernel_rfl) rfl ret0_ok ?_
  simp [Chamber.cells]
  refine CallZ.use0 (c_l00In _ _ _) rfl rfl ?_
  simp
  repeat refine ⟨by grind, ?_⟩
  refine CallY.use (fun _ => ⟨rfl, c_l00In _ _ _⟩) rfl rfl ?_
  simp
  repeat refine ⟨by grind, ?_⟩
  refine CallY.use (fun _ => ⟨rfl, c_l00In _ _ _⟩) rfl rfl ?_
  simp
  repeat refine ⟨by grind, ?_⟩
  simp [chamberOk]
theorem c_l23Within0 (c : Chamber) (p : Place) (rows' : List (List PV)) (j : Nat) (hr' : rows'[j]? = some p.cells) (gap : Int) :
    HFn Tryz.prog 130 [.pe 3 [c.cells] 0 0, .pe 5 rows' j 0, .int .i64 gap] [] (.bool (fitsC c p gap)) [] := by
  have hj : j < rows'.length := (List.getElem?_eq_some_iff.1 hr').1
  have hy : rows'[j] = p.cells := (List.getElem?_eq_some_iff.1 hr').2
  rw [Place.cells] at hr' hy
  refine hfn_intro hm Tryz.func130 (by kernel_rfl) rfl (by kernel_rfl) rfl ret0_ok ?_
  simp [Chamber.cells, hj, hy]
  refine CallZ.use0 (c_l00In _ _ _) rfl rfl ?_
  simp [hj, hy]
  repeat refine ⟨by grind, ?_⟩
  refine CallY.use (fun _ => ⟨rfl, c_l00In _ _ _⟩) rfl rfl ?_
  simp [hj, hy]
  repeat refine ⟨by grind, ?_⟩
  refine CallY.use (fun _ => ⟨rfl, c_l00In _ _ _⟩) rfl rfl ?_
  simp [fitsC]
set_option maxHeartbeats 2000000 in
theorem c_l23Outside0 (c : Chamber) (l : List Place) (gap : Int) (hlen : l.length ≤ 24) :
    HFn Tryz.prog 45 [.pe 3 [c.cells] 0 0, .sl 5 (Place.rows l), .int .i64 gap] [] (.sl 1 (intRows (outTo c l gap l.length))) [] := by
  refine hfn_intro hm Tryz.func45 (by kernel_rfl) rfl (by kernel_rfl) rfl (fun _ _ h => h) ?_
  simp
  refine loop_upto hm l.length (fun i => ⟨[(0, .pe 3 [c.cells] 0 0), (1, .sl 5 (Place.rows l)), (2, .int .i64 gap), (7, .sf 0 1), (8, .int .i64 i)], [some (.arr 1 (intRows (outTo c l gap i)))]⟩) (fun _ => True) (by kernel_rfl) ?_ trivial (fun i hi _ => ?_) (fun _ => ?_)
  · exact (weak_nil (t := 7) (z := 1) rfl).trans (Wk.weak (ρ := [0]) (φ := []) (by simp [outTo, intRows]))
  · have w1 : IntKind.i64.wrap ((i : Int) + 1) = (i : Int) + 1 := w64 (by omega) (by omega)
    have hle := outTo_le c l gap i
    rw [outTo_succ c l gap hi]
    generalize outTo c l gap i = T at hle ⊢
    simp [Place.rows, hi]
    refine CallZ.use0 (c_l23Within0 c l[i] _ i (by simp [hi]) gap) rfl rfl ?_
    simp [intRows_len]
    refine ⟨fun h => ⟨by simp [rowsOne], by omega, by omega, Wk.weak (ρ := [0]) (φ := []) ?_⟩, fun h => Wk.weak (ρ := [0]) (φ := []) ?_⟩
    · simp [w1, h, intRows_app]
      rfl
    · simp [w1, h]
  · simp [Place.rows_len]
    exact Wk.weak (ρ := []) (φ := [0]) (by simp)
set_option maxHeartbeats 2000000 in
theorem c_IsClear (c : Chamber) (l : List Place) (gap : Int) (hc : chamberOk c = true) (hl : placesOk l = true) (hg : 0 ≤ gap ∧ gap ≤ 5000) (h1 : outTo c l gap l.length = []) (h2 : clashTo l gap l.length = []) :
    HFn Tryz.prog 10 [.agg c.cells, .sl 5 (Place.rows l), .int .i64 gap] [] (.bool true) [] := by
  have hlen := places_len hl
  have k1 := c_l23Chamber0 c
  have k2 := c_l23Ok l (by omega)
  have k4 := c_l23Outside0 c l gap hlen
  have k5 := c_l23Clashes l gap hl
  rw [hc] at k1
  rw [hl] at k2
  rw [h1] at k4
  rw [h2] at k5
  refine hfn_introL [0] hm Tryz.func10 (by kernel_rfl) rfl (by kernel_rfl) rfl ret0_ok ?_
  simp [Chamber.cells]
  refine ends_cut 1 (by kernel_rfl) ?_
  simp
  refine ⟨⟨[(1, .sl 5 (Place.rows l)), (2, .int .i64 gap), (3, .pe 3 [c.cells] 0 0)], []⟩, Wk.weak (ρ := []) (φ := [0]) (by simp [Chamber.cells]), ?_⟩
  simp
  refine CallZ.use0 k1 rfl rfl ?_
  simp
  refine CallY.use (fun _ => ⟨rfl, k2⟩) rfl rfl ?_
  simp
  refine CallY.use (fun _ => ⟨rfl, c_l23Gap gap⟩) rfl rfl ?_
  simp [hg]
  refine CallY.use (fun _ => ⟨rfl, k4⟩) rfl rfl ?_
  simp [intRows_len]
  refine CallY.use (fun _ => ⟨rfl, k5⟩) rfl rfl ?_
  simp [pairRows_len]
theorem c_CarriesLoads (b : Beam) (s e : Int) (hb : beamOk b = true) (h1 : strV b ≤ s) (h2 : benV b ≤ e) : HFn Tryz.prog 13 [.agg b.cells, .int .i64 s, .int .i64 e] [] (.bool true) [] := by
  have hi := beamIn hb
  have k0 : HFn Tryz.prog 51 [.pe 6 [b.cells] 0 0, .int .i64 s, .int .i64 e] [] (.bool true) [] := by
    refine hfn_intro hm Tryz.func51 (by kernel_rfl) rfl (by kernel_rfl) rfl ret0_ok ?_
    simp
    refine CallZ.use0 (c_l21Stress b hi [b.cells] 0 rfl) rfl rfl ?_
    simp [h1]
    refine CallY.use (fun _ => ⟨rfl, c_l21Bending b hi [b.cells] 0 rfl⟩) rfl rfl ?_
    simp [h2]
  have k1 := c_l21Ok b [b.cells] 0 rfl (by have := hi.len; omega)
  rw [hb] at k1
  simp only [Beam.cells] at k0 k1
  refine hfn_intro hm Tryz.func13 (by kernel_rfl) rfl (by kernel_rfl) rfl ret0_ok ?_
  simp [Beam.cells]
  refine CallZ.use0 k1 rfl rfl ?_
  simp
  refine CallY.use (fun _ => ⟨rfl, k0⟩) rfl rfl ?_
  simp

/-! ### What an audit without troubles tells -/
theorem any_succ {α : Type} (f : α → Bool) (l : List α) {i : Nat} (hi : i < l.length) : (l.take (i + 1)).any f = ((l.take i).any f || f l[i]) := by
  rw [← List.take_append_getElem hi, List.any_append]
  simp
theorem upTo_none {α : Type} {f : α → List Trouble} {l : List α} (h : upTo f l l.length = []) : ∀ x ∈ l, f x = [] := fun x hx => by
  unfold upTo at h
  rw [List.take_length] at h
  exact List.flatten_eq_nil_iff.1 h _ (List.mem_map.2 ⟨x, hx, rfl⟩)
structure Passed (c : Carillon) : Prop where
  traced : tracedC c.ingots c.melts c.bells = true
  known : ∀ h ∈ c.hung, (c.bells.any fun b => decide (b.id = h.bell) && decide (b.mass ≤ h.mass)) = true
  placed : ∀ h ∈ c.hung, (c.places.any fun p => decide (p.bell = h.bell)) = true
  outs : outTo c.chamber c.places c.gap c.places.length = []
  clash : clashTo c.places c.gap c.places.length = []
  fine : sfine c.hung = true
  perm : permV c.tower (swingsL c.hung) = true
  beams : ∀ b ∈ c.frame, strV b ≤ c.stress ∧ benV b ≤ c.bending
  notes : ∀ n ∈ notesL c.tune, hasNote c.bells n = true ∧ 0 ≤ keyAt c.clavier n
theorem passed {c : Carillon} (h : allL c = []) : Passed c := by
  unfold allL at h
  obtain ⟨h, hu⟩ := List.append_eq_nil_iff.1 h
  obtain ⟨h, ht⟩ := List.append_eq_nil_iff.1 h
  obtain ⟨hme, hro⟩ := List.append_eq_nil_iff.1 h
  obtain ⟨m0, m1⟩ := List.append_eq_nil_iff.1 hme
  unfold roomL at hro
  obtain ⟨h, r2⟩ := List.append_eq_nil_iff.1 hro
  obtain ⟨r0, r1⟩ := List.append_eq_nil_iff.1 h
  obtain ⟨t0, t1⟩ := List.append_eq_nil_iff.1 ht
  have hm1 := upTo_none m1
  have hr0 := upTo_none r0
  have ht1 := upTo_none t1
  have hu1 := upTo_none hu
  have hto : sfine c.hung = true ∧ permV c.tower (swingsL c.hung) = true := by
    unfold tow0 at t0
    split at t0
    · rename_i e
      split at t0
      · rename_i e2; exact ⟨e, e2⟩
      · cases t0
    · cases t0
  refine ⟨?_, fun h hh => ?_, fun h hh => ?_, List.map_eq_nil_iff.1 r1, List.map_eq_nil_iff.1 r2, hto.1, hto.2, fun b hb => ?_, fun n hn => ?_⟩
  · unfold metal0 at m0
    split at m0
    · rename_i e; exact e
    · cases m0
  · have := hm1 h hh
    unfold metalAt at this
    split at this
    · rename_i e
      obtain ⟨i, e1, hi, e2⟩ := has_get e
      rw [e1, Int.toNat_natCast, List.getElem?_eq_getElem hi] at this
      simp only at this
      split at this
      · cases this
      · exact List.any_eq_true.2 ⟨_, List.getElem_mem hi, by simp [e2]; omega⟩
    · cases this
  · have := hr0 h hh
    unfold missAt at this
    split at this
    · rename_i e; exact e
    · cases this
  · have := ht1 b hb
    unfold beamAt at this
    split at this
    · cases this
    · split at this
      · cases this
      · omega
  · have := hu1 n hn
    unfold musicAt at this
    split at this
    · rename_i e
      split at this
      · rename_i e2; exact ⟨e, e2⟩
      · cases this
    · cases this
set_option maxHeartbeats 16000000 in
theorem c_law_Top (code : List Int) (hcd : ∀ c ∈ code, 0 ≤ c ∧ c < 256) (hln : code.length ≤ 9223372036854775807) : HFn Tryz.prog 3 [.sl 1 (byteRows code)] [] (.bool true) [] := by
  refine hfn_intro hm Tryz.func3 (by kernel_rfl) rfl (by kernel_rfl) rfl ret0_ok ?_
  simp [byteRows_len]
  intro _
  refine CallZ.useG [] [] [] (c_R8Carillon code hcd hln) (by simp) rfl (by simp) rfl (fun x _ => ⟨rfl, rfl, rfl, .inl rfl⟩) (fun c hx => ?_)
  obtain ⟨hs, hv⟩ := hx
  have hc := carOk_iff hs hv
  have kA := c_impl_AuditCarillon c hs
  have kP := c_impl_PassesAudit c hs
  have eP : passB c = decide (allL c = []) := by simp [passB, hv]
  simp only [auR, auC, hv, if_true] at kA
  rw [eP] at kP
  simp only [Carillon.cells] at kA kP
  by_cases hp : allL c = []
  rotate_left
  · simp only [hp, decide_false] at kP
    have hpos : 0 < (allL c).length := List.length_pos_iff.2 hp
    simp [Carillon.cells]
    refine CallZ.use0 kP rfl rfl ?_
    simp
    refine CallZ.use kA rfl (.inr ⟨Trouble.flat _, trivial⟩) rfl rfl ?_
    simp [Trouble.rows_len, hpos]
  have hP := passed hp
  simp only [hp, decide_true] at kP
  obtain ⟨hf, hbe⟩ := frame_in hc.fram
  have hl := hc.hl
  have hpl := places_len hc.plac
  have hbl := (belOk_of hc.bel).len
  obtain ⟨hn1, hn2⟩ := notesL_in hc.tune
  have hT := hP.notes
  have kT := c_spec_TracedBells c.ingots c.melts c.bells hc.ing hc.mel hc.bel
  rw [hP.traced] at kT
  have kC := c_IsClear c.chamber c.places c.gap hc.cham hc.plac hc.gap hP.outs hP.clash
  have kS := c_impl_SwingsOf c.hung (by omega)
  have eC : swCode c.hung = 0 := by simp [swCode, hc.hung, sCode, hP.fine]
  have eO : swOut c.hung = swingsL c.hung := by simp [swOut, hc.hung]
  rw [eC, eO] at kS
  have hsl : (swingsL c.hung).length = c.hung.length := by simp [swingsL, hP.fine]
  have kI := c_spec_IsPermitted c.tower (swingsL c.hung) hc.tow (by omega)
  rw [hP.perm] at kI
  have kN := c_NotesUsed c.tune hc.tune
  have kK := fun n => c_spec_KeyFor c.clavier n hc.clav
  simp only [Chamber.cells, Tower.cells, Tune.cells] at kC kI kN
  simp [Carillon.cells]
  refine CallZ.use0 kP rfl rfl ?_
  simp
  refine CallZ.use0 kT rfl rfl ?_
  simp
  refine CallY.use (fun _ => ⟨rfl, kC⟩) rfl rfl ?_
  simp
  refine CallZ.use kS rfl (.inr ⟨Swing.flat _, trivial⟩) rfl rfl ?_
  simp [Swing.rows_len, Hung.rows_len, hsl]
  refine CallY.use (fun _ => ⟨rfl, kI⟩) rfl rfl ?_
  simp
  refine loop_upto hm c.hung.length (fun i => ⟨[(3, .pb 0 0), (8, .int .i64 i)], [some (.box c.cells)]⟩) (fun _ => True) (by kernel_rfl) ?_ trivial (fun i hi _ => ?_) (fun _ => ?_)
  · exact Wk.weak (ρ := [0]) (φ := []) (by simp [Carillon.cells])
  · have w1 : IntKind.i64.wrap ((i : Int) + 1) = (i : Int) + 1 := w64 (by omega) (by omega)
    simp [Carillon.cells, Hung.rows_len, hi]
    refine loop_upto hm c.places.length (fun k => ⟨[(3, .pb 0 0), (8, .int .i64 i), (9, .bool ((c.places.take k).any fun p => decide (p.bell = c.hung[i].bell))), (10, .int .i64 k)], [some (.box c.cells)]⟩) (fun _ => True) (by kernel_rfl) ?_ trivial (fun k hk _ => ?_) (fun _ => ?_)
    · exact Wk.weak (ρ := [0]) (φ := []) (by simp [Carillon.cells])
    · have w2 : IntKind.i64.wrap ((k : Int) + 1) = (k : Int) + 1 := w64 (by omega) (by omega)
      rw [any_succ _ _ hk]
      generalize (c.places.take k).any (fun p => decide (p.bell = c.hung[i].bell)) = b
      cases b
      · simp [Carillon.cells, Place.rows, Place.cells, Hung.rows, Hung.cells, hi, hk]
        refine Wk.weak (ρ := [0]) (φ := []) ?_
        simp [w2]
      · simp [Carillon.cells, Place.rows, Place.cells, Hung.rows, Hung.cells, hi, hk]
        refine Wk.weak (ρ := [0]) (φ := []) ?_
        simp [w2]
    · have hpl2 := hP.placed _ (List.getElem_mem hi)
      rw [List.take_length, hpl2]
      simp [Carillon.cells, Place.rows_len]
      refine loop_upto hm c.bells.length (fun k => ⟨[(3, .pb 0 0), (8, .int .i64 i), (9, .bool true), (11, .bool ((c.bells.take k).any fun b => decide (b.id = c.hung[i].bell) && decide (b.mass ≤ c.hung[i].mass))), (12, .int .i64 k)], [some (.box c.cells)]⟩) (fun _ => True) (by kernel_rfl) ?_ trivial (fun k hk _ => ?_) (fun _ => ?_)
      · exact Wk.weak (ρ := [0]) (φ := []) (by simp [Carillon.cells])
      · have w2 : IntKind.i64.wrap ((k : Int) + 1) = (k : Int) + 1 := w64 (by omega) (by omega)
        rw [any_succ _ _ hk]
        generalize (c.bells.take k).any (fun b => decide (b.id = c.hung[i].bell) && decide (b.mass ≤ c.hung[i].mass)) = b
        cases b
        · by_cases e : c.bells[k].id = c.hung[i].bell
          · simp [Carillon.cells, Bell.rows_len, Bell.row_get, Bell.cells, Hung.rows, Hung.cells, hi, hk, e]
            refine Wk.weak (ρ := [0]) (φ := []) ?_
            simp [w2]
          · simp [Carillon.cells, Bell.rows_len, Bell.row_get, Bell.cells, Hung.rows, Hung.cells, hi, hk, e]
            refine Wk.weak (ρ := [0]) (φ := []) ?_
            simp [w2]
        · simp [Carillon.cells, Bell.rows_len, Bell.row_get, Bell.cells, Hung.rows, Hung.cells, hi, hk]
          refine Wk.weak (ρ := [0]) (φ := []) ?_
          simp [w2]
      · have hkn := hP.known _ (List.getElem_mem hi)
        rw [List.take_length, hkn]
        simp [Carillon.cells, Bell.rows_len]
        refine Wk.weak (ρ := [0]) (φ := []) ?_
        simp [w1]
  · simp [Carillon.cells, Hung.rows_len]
    refine loop_upto hm c.frame.length (fun i => ⟨[(3, .pb 0 0), (13, .int .i64 i)], [some (.box c.cells)]⟩) (fun _ => True) (by kernel_rfl) ?_ trivial (fun i hi _ => ?_) (fun _ => ?_)
    · exact Wk.weak (ρ := [0]) (φ := []) (by simp [Carillon.cells])
    · have w1 : IntKind.i64.wrap ((i : Int) + 1) = (i : Int) + 1 := w64 (by omega) (by omega)
      have hb := hP.beams _ (List.getElem_mem hi)
      have hbo : beamOk c.frame[i] = true := by
        have := hc.fram
        simp only [frameOk, Bool.and_eq_true] at this
        exact upOk_mem this.1 _ (List.getElem_mem hi)
      have kL := c_CarriesLoads c.frame[i] c.stress c.bending hbo hb.1 hb.2
      simp only [Beam.cells] at kL
      simp [Carillon.cells, Beam.rows_len, Beam.row_get, Beam.cells, hi]
      refine CallZ.use0 kL rfl rfl ?_
      simp
      refine Wk.weak (ρ := [0]) (φ := []) ?_
      simp [w1]
    · simp [Carillon.cells, Beam.rows_len]
      refine CallZ.use kN rfl (.inr ⟨flat_intRows _, trivial⟩) rfl rfl ?_
      generalize notesL c.tune = ns at *
      simp
      refine loop_upto hm ns.length (fun i => ⟨[(3, .pb 0 0), (14, .sf 1 1), (16, .int .i64 i)], [some (.box c.cells), some (.arr 1 (intRows ns))]⟩) (fun _ => True) (by kernel_rfl) ?_ trivial (fun i hi _ => ?_) (fun _ => ?_)
      · exact Wk.weak (ρ := [0, 1]) (φ := []) (by simp [Carillon.cells])
      · have w1 : IntKind.i64.wrap ((i : Int) + 1) = (i : Int) + 1 := w64 (by omega) (by omega)
        obtain ⟨t1, t2⟩ := hT _ (List.getElem_mem hi)
        simp [intRows_len, hi]
        refine loop_upto hm c.bells.length (fun k => ⟨[(3, .pb 0 0), (14, .sf 1 1), (16, .int .i64 i), (17, .bool ((c.bells.take k).any fun b => decide (b.note = ns[i]))), (18, .int .i64 k)], [some (.box c.cells), some (.arr 1 (intRows ns))]⟩) (fun _ => True) (by kernel_rfl) ?_ trivial (fun k hk _ => ?_) (fun _ => ?_)
        · exact Wk.weak (ρ := [0, 1]) (φ := []) (by simp [Carillon.cells])
        · have w2 : IntKind.i64.wrap ((k : Int) + 1) = (k : Int) + 1 := w64 (by omega) (by omega)
          rw [any_succ _ _ hk]
          generalize (c.bells.take k).any (fun b => decide (b.note = ns[i])) = b
          cases b
          · simp [Carillon.cells, Bell.rows_len, Bell.row_get, Bell.cells, intRows_len, intRows_get, hi, hk]
            refine Wk.weak (ρ := [0, 1]) (φ := []) ?_
            simp [w2]
          · simp [Carillon.cells, Bell.rows_len, Bell.row_get, Bell.cells, intRows_len, intRows_get, hi, hk]
            refine Wk.weak (ρ := [0, 1]) (φ := []) ?_
            simp [w2]
        · unfold hasNote at t1
          rw [List.take_length, t1]
          have kk := kK ns[i]
          simp only [keyP, t2, if_true] at kk
          simp [Carillon.cells, Bell.rows_len, intRows_len, intRows_get, hi]
          refine CallZ.use0 kk rfl rfl ?_
          simp
          refine Wk.weak (ρ := [0, 1]) (φ := []) ?_
          simp [w1]
      · simp [intRows_len]

theorem l_FnTop (pargs : List PV) (h : fitsAll [.one (.slc [.int .u8])] pargs) : HFn Tryz.prog 3 pargs [] (.bool true) [] := by
  obtain ⟨p0, r0, rfl, f0, z0⟩ := fitsAll_cons h
  obtain rfl := fitsAll_nil z0
  obtain ⟨rows0, rfl, g0, y0⟩ := fits_slc f0
  obtain ⟨code, rfl, wc⟩ := fits_bytes y0
  exact c_law_Top code wc (by simpa [byteRows] using g0)
end Go.Proofs.YtcjpfjklhhclmaaGreatDoor
