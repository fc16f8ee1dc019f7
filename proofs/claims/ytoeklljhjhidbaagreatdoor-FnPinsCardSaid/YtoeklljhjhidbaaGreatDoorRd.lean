/- The law FnPins. No condition. -/
import Derived.Test.YtoeklljhjhidbaaGreatDoorRa
import Derived.Test.YtoeklljhjhidbaaGreatDoorRc
namespace Go.Proofs.YtoeklljhjhidbaaGreatDoor
open Go Go.Ab
set_option maxRecDepth 100000

theorem text_len {d : Drum} (h : validDrum d = true) : (drumTx d).length ≤ 1048576 := by
  have V := (vd_iff d).1 h
  unfold drumTx
  rw [if_pos h]
  unfold drumT
  have hs := V.s0
  have hs1 := V.s1
  have hr := V.r0
  have hr1 := V.r1
  have hn := V.nl
  have hp := V.pl
  have i64 : ∀ v : Int, 0 ≤ v → v ≤ 5000 → (Lib.itoa v).length ≤ 21 := fun v h1 h2 => itoa_len ⟨by omega, by omega⟩
  have hw : ∀ x ∈ drumW d, x.length ≤ 1000 := fun x hx => by
    rcases List.mem_append.1 hx with hx | hx
    · simp at hx
      rcases hx with rfl | rfl | rfl
      · have := i64 d.steps (by omega) (by omega); omega
      · have := i64 d.rest (by omega) (by omega); omega
      · have := listT_len d.notes fun x hx => by
          obtain ⟨i, hi, rfl⟩ := List.getElem_of_mem hx
          have := V.notes i hi
          simp [noteOkAt, hi] at this
          exact ⟨by omega, by omega⟩
        omega
    · obtain ⟨p, hp, rfl⟩ := List.mem_map.1 hx
      have h1 := pinIn_iff.1 (V.inn p hp)
      have h2 := i64 p.step (by omega) (by omega)
      have h3 := i64 p.hammer (by omega) (by omega)
      simp [pinW]
      omega
  have := join_len [32] 1000 (by simp) (drumW d) hw
  have hl : (drumW d).length = 3 + d.pins.length := by simp [drumW]; omega
  rw [hl] at this
  omega

set_option maxHeartbeats 8000000 in
theorem c_law_FnPins [Go.Ab.Drwn] [Go.Ab.DrwOff] (code more : List Int) (hc : ∀ c ∈ code, 0 ≤ c ∧ c < 256) (hm' : ∀ c ∈ more, 0 ≤ c ∧ c < 256) (lc : code.length ≤ 9223372036854775807) (lm : more.length ≤ 9223372036854775807) :
    HFn Tryz.prog 3 [.sl 1 (byteRows code), .sl 1 (byteRows more)] [] (.bool true) [] := by
  refine hfn_intro hm Tryz.func3 (by kernel_rfl) rfl (by kernel_rfl) rfl ret0_ok ?_
  simp
  refine CallZ.use0 (c_b10Long code) rfl rfl ?_
  simp
  refine CallY.use (fun _ => ⟨rfl, c_b10Long more⟩) rfl rfl ?_
  simp
  intro g1 g2
  refine CallZ.useG [] [] [] (c_DrawTurnDrum code hc lc) (by simp) rfl (by simp) rfl (fun x _ => ⟨rfl, rfl, rfl, .inl rfl⟩) (fun x hx => ?_)
  obtain ⟨d, q⟩ := x
  obtain ⟨hn, hp⟩ := hx
  simp only at hn hp ⊢
  have kT := c_impl_TurnDrum d q (by omega) (by omega)
  have kD := c_impl_DrumText d (by omega) (by omega)
  have hle := turnD_le d q
  simp [Drum.cells] at kT kD
  simp
  refine CallZ.use kT rfl (.inr ⟨flat_intRows _, Pin.flat _, trivial⟩) rfl rfl ?_
  by_cases hv : validDrum d = true
  rotate_left
  · have e1 : turnCode d = 1 := by simp [turnCode, hv]
    have e2 : turnD d q = ⟨0, 0, [], []⟩ := by unfold turnD; rw [if_neg hv]
    have e3 : drumTx d = [] := by unfold drumTx; rw [if_neg hv]
    rw [e3] at kD
    simp [e1, e2, Pin.rows]
    refine CallY.use (fun _ => ⟨rfl, kD⟩) rfl rfl ?_
    simp
  have e1 : turnCode d = 0 := by simp [turnCode, hv]
  have hX := turn_valid hv q
  have hB := turn_back hv q
  have kR := c_impl_ReadDrum (drumTx d) (text_len hv)
  simp [read_text hv] at kR
  generalize turnD d q = X at hle hX hB kT ⊢
  have kV := c_spec_ValidDrum X (by omega) (by omega)
  rw [hX] at kV
  have kS := c_impl_SameDrum d d (by omega) (by omega)
  have kT2 := c_impl_TurnDrum X (-q) (by omega) (by omega)
  rw [hB, show turnCode X = 0 by simp [turnCode, hX]] at kT2
  simp [Drum.cells] at kV kS kT2
  simp [e1]
  refine CallZ.use0 kD rfl rfl ?_
  simp
  refine CallZ.use kR rfl (.inr ⟨flat_intRows _, Pin.flat _, trivial⟩) rfl rfl ?_
  simp
  refine CallZ.use0 kV rfl rfl ?_
  simp
  refine CallY.use (fun _ => ⟨rfl, kS⟩) rfl rfl ?_
  simp
  refine ⟨fun q1 q2 => ?_, fun hq' => ?_⟩
  · have w1 : IntKind.i64.wrap (-q) = -q := w64 (by omega) (by omega)
    rw [w1]
    refine CallZ.use kT2 rfl (.inr ⟨flat_intRows _, Pin.flat _, trivial⟩) rfl rfl ?_
    simp
    refine CallY.use (fun _ => ⟨rfl, kS⟩) rfl rfl ?_
    simp
    refine CallZ.useG [] [] [] (c_DrawAddPin more hm' lm) (by simp) rfl (by simp) rfl (fun x _ => ⟨rfl, rfl, rfl, .inl rfl⟩) (fun x hx => ?_)
    obtain ⟨e, p⟩ := x
    obtain ⟨hn2, hp2⟩ := hx
    simp only at hn2 hp2 ⊢
    have kA := c_impl_AddPin e p (by omega) (by omega)
    have hle2 := addD_le e p
    simp [Drum.cells, Pin.cells] at kA
    simp
    refine CallZ.use kA rfl (.inr ⟨flat_intRows _, Pin.flat _, trivial⟩) rfl rfl ?_
    by_cases hA : addCodeP e p = 0
    rotate_left
    · have e2 : addD e p = ⟨0, 0, [], []⟩ := addD_bad rfl hA
      simp [hA, e2, Pin.rows]
    have eD : addD e p = putD e p := if_pos hA
    have hY := put_valid hA
    obtain ⟨r1, r2⟩ := remove_put hA
    obtain ⟨l1, l2⟩ := put_line hA
    rw [eD] at hle2 kA ⊢
    have kR2 := c_impl_RemovePin (putD e p) p (by omega) (by omega)
    have kL := c_impl_LineOf (putD e p) p.hammer (by omega) (by omega)
    have kB := c_impl_BusiestStep (putD e p) (by omega) (by omega)
    have kV2 := c_spec_ValidDrum (putD e p) (by omega) (by omega)
    have kS2 := c_impl_SameDrum e e (by omega) (by omega)
    have hne : (putD e p).pins ≠ [] := fun h0 => by
      have := (putL_perm e.pins p).length_eq
      rw [show putL e.pins p = (putD e p).pins from rfl, h0] at this
      simp at this
    obtain ⟨b1, b2⟩ := busy_facts hY hne
    rw [r1, r2] at kR2
    rw [l1] at kL
    rw [hY] at kV2
    unfold busyR at kB
    rw [if_pos hY, if_neg hne] at kB
    generalize putD e p = Y at hle2 hY kA kR2 kL kB kV2 hne b1 b2 l1 l2 ⊢
    generalize (bestS Y.pins Y.pins.length).1 = bs at kB b1
    generalize (bestS Y.pins Y.pins.length).2 = bm at kB b2
    have hll : (lineL Y p.hammer).length ≤ Y.pins.length := by
      unfold lineL
      rw [if_pos l1]
      exact lineOf_len _ _
    generalize lineL Y p.hammer = ll at kL l2 hll
    simp [Drum.cells, Pin.cells] at kR2 kL kB kV2 kS2
    simp [hA]
    refine CallZ.use kR2 rfl (.inr ⟨flat_intRows _, Pin.flat _, trivial⟩) rfl rfl ?_
    simp
    refine CallZ.use kL rfl (.inr ⟨flat_intRows _, trivial⟩) rfl rfl ?_
    simp
    refine CallZ.use0 kB rfl rfl ?_
    simp
    refine CallY.use (fun _ => ⟨rfl, kS2⟩) rfl rfl ?_
    simp
    refine CallY.use (fun _ => ⟨rfl, kV2⟩) rfl rfl ?_
    have b3 : (1 : Int) ≤ bm := by omega
    obtain ⟨b4, b5⟩ := b1
    simp [b3, b4, b5]
    refine loop_upto hm ll.length (fun i => ⟨[(14, .pb 0 0), (19, .sf 1 1), (24, .bool ((ll.take i).any fun x => decide (x = p.step))), (25, .int .i64 i)], [some (.box [.int .i64 p.step, .int .i64 p.hammer]), some (.arr 1 (intRows ll))]⟩) (fun _ => True) (by kernel_rfl) ?_ trivial (fun i hi _ => ?_) (fun _ => ?_)
    · refine Wk.weak (ρ := [15, 22]) (φ := []) ?_
      simp
    · have w2 : IntKind.i64.wrap ((i : Int) + 1) = (i : Int) + 1 := w64 (by omega) (by omega)
      have hs : ((ll.take (i + 1)).any fun x => decide (x = p.step)) = (((ll.take i).any fun x => decide (x = p.step)) || decide (ll[i] = p.step)) := by
        rw [← List.take_append_getElem hi, List.any_append]
        simp
      rw [hs]
      cases hA : (ll.take i).any fun x => decide (x = p.step)
      · simp [intRows_len, intRows_get, hi, w2]
        refine Wk.weak (ρ := [0, 1]) (φ := []) ?_
        simp
      · simp [intRows_len, intRows_get, hi, w2]
        refine Wk.weak (ρ := [0, 1]) (φ := []) ?_
        simp
    · simp [intRows_len]
      exact l2
  · refine CallZ.useG [] [] [] (c_DrawAddPin more hm' lm) (by simp) rfl (by simp) rfl (fun x _ => ⟨rfl, rfl, rfl, .inl rfl⟩) (fun x hx => ?_)
    obtain ⟨e, p⟩ := x
    obtain ⟨hn2, hp2⟩ := hx
    simp only at hn2 hp2 ⊢
    have kA := c_impl_AddPin e p (by omega) (by omega)
    have hle2 := addD_le e p
    simp [Drum.cells, Pin.cells] at kA
    simp
    refine CallZ.use kA rfl (.inr ⟨flat_intRows _, Pin.flat _, trivial⟩) rfl rfl ?_
    by_cases hA : addCodeP e p = 0
    rotate_left
    · have e2 : addD e p = ⟨0, 0, [], []⟩ := addD_bad rfl hA
      simp [hA, e2, Pin.rows]
    have eD : addD e p = putD e p := if_pos hA
    have hY := put_valid hA
    obtain ⟨r1, r2⟩ := remove_put hA
    obtain ⟨l1, l2⟩ := put_line hA
    rw [eD] at hle2 kA ⊢
    have kR2 := c_impl_RemovePin (putD e p) p (by omega) (by omega)
    have kL := c_impl_LineOf (putD e p) p.hammer (by omega) (by omega)
    have kB := c_impl_BusiestStep (putD e p) (by omega) (by omega)
    have kV2 := c_spec_ValidDrum (putD e p) (by omega) (by omega)
    have kS2 := c_impl_SameDrum e e (by omega) (by omega)
    have hne : (putD e p).pins ≠ [] := fun h0 => by
      have := (putL_perm e.pins p).length_eq
      rw [show putL e.pins p = (putD e p).pins from rfl, h0] at this
      simp at this
    obtain ⟨b1, b2⟩ := busy_facts hY hne
    rw [r1, r2] at kR2
    rw [l1] at kL
    rw [hY] at kV2
    unfold busyR at kB
    rw [if_pos hY, if_neg hne] at kB
    generalize putD e p = Y at hle2 hY kA kR2 kL kB kV2 hne b1 b2 l1 l2 ⊢
    generalize (bestS Y.pins Y.pins.length).1 = bs at kB b1
    generalize (bestS Y.pins Y.pins.length).2 = bm at kB b2
    have hll : (lineL Y p.hammer).length ≤ Y.pins.length := by
      unfold lineL
      rw [if_pos l1]
      exact lineOf_len _ _
    generalize lineL Y p.hammer = ll at kL l2 hll
    simp [Drum.cells, Pin.cells] at kR2 kL kB kV2 kS2
    simp [hA]
    refine CallZ.use kR2 rfl (.inr ⟨flat_intRows _, Pin.flat _, trivial⟩) rfl rfl ?_
    simp
    refine CallZ.use kL rfl (.inr ⟨flat_intRows _, trivial⟩) rfl rfl ?_
    simp
    refine CallZ.use0 kB rfl rfl ?_
    simp
    refine CallY.use (fun _ => ⟨rfl, kS2⟩) rfl rfl ?_
    simp
    refine CallY.use (fun _ => ⟨rfl, kV2⟩) rfl rfl ?_
    have b3 : (1 : Int) ≤ bm := by omega
    obtain ⟨b4, b5⟩ := b1
    simp [b3, b4, b5]
    refine loop_upto hm ll.length (fun i => ⟨[(14, .pb 0 0), (19, .sf 1 1), (24, .bool ((ll.take i).any fun x => decide (x = p.step))), (25, .int .i64 i)], [some (.box [.int .i64 p.step, .int .i64 p.hammer]), some (.arr 1 (intRows ll))]⟩) (fun _ => True) (by kernel_rfl) ?_ trivial (fun i hi _ => ?_) (fun _ => ?_)
    · refine Wk.weak (ρ := [12, 19]) (φ := []) ?_
      simp
    · have w2 : IntKind.i64.wrap ((i : Int) + 1) = (i : Int) + 1 := w64 (by omega) (by omega)
      have hs : ((ll.take (i + 1)).any fun x => decide (x = p.step)) = (((ll.take i).any fun x => decide (x = p.step)) || decide (ll[i] = p.step)) := by
        rw [← List.take_append_getElem hi, List.any_append]
        simp
      rw [hs]
      cases hA : (ll.take i).any fun x => decide (x = p.step)
      · simp [intRows_len, intRows_get, hi, w2]
        refine Wk.weak (ρ := [0, 1]) (φ := []) ?_
        simp
      · simp [intRows_len, intRows_get, hi, w2]
        refine Wk.weak (ρ := [0, 1]) (φ := []) ?_
        simp
    · simp [intRows_len]
      exact l2
theorem l_FnPins [Go.Ab.Drwn] [Go.Ab.DrwOff] (pargs : List PV) (h : fitsAll [.one (.slc [.int .u8]), .one (.slc [.int .u8])] pargs) : HFn Tryz.prog 3 pargs [] (.bool true) [] := by
  obtain ⟨p0, r0, rfl, f0, z0⟩ := fitsAll_cons h
  obtain ⟨p1, r1, rfl, f1, z1⟩ := fitsAll_cons z0
  obtain rfl := fitsAll_nil z1
  obtain ⟨rows0, rfl, g0, y0⟩ := fits_slc f0
  obtain ⟨code, rfl, wc⟩ := fits_bytes y0
  obtain ⟨rows1, rfl, g1, y1⟩ := fits_slc f1
  obtain ⟨more, rfl, wm⟩ := fits_bytes y1
  exact c_law_FnPins code more wc wm (by simpa [byteRows] using g0) (by simpa [byteRows] using g1)
end Go.Proofs.YtoeklljhjhidbaaGreatDoor
