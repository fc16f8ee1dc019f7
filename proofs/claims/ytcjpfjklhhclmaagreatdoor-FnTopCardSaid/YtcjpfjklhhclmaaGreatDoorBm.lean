/- Contracts: troubles of the tower and of the tune. No condition. -/
import Derived.Test.YtcjpfjklhhclmaaGreatDoorBl
import Derived.Test.YtcjpfjklhhclmaaGreatDoorBh
namespace Go.Proofs.YtcjpfjklhhclmaaGreatDoor
open Go Go.Ab
set_option maxRecDepth 100000

def txState : List UInt8 := [115, 116, 97, 116, 101]
def txSway : List UInt8 := [115, 119, 97, 121]
def txStress : List UInt8 := [115, 116, 114, 101, 115, 115]
def txBending : List UInt8 := [98, 101, 110, 100, 105, 110, 103]
def txBell : List UInt8 := [98, 101, 108, 108]
def txKey : List UInt8 := [107, 101, 121]
theorem c_impl_CodeName6 : HFn Tryz.prog 116 [.int .i64 6] [] (.str txState) [] := by
  refine hfn_intro hm Tryz.func116 (by kernel_rfl) rfl (by kernel_rfl) rfl ret0_ok ?_
  simp [txState]
/-! ### The tower -/
def tow0 (c : Carillon) : List Trouble := if sfine c.hung = true then (if permV c.tower (swingsL c.hung) = true then [] else [⟨5, c.tower.name, txSway⟩]) else [⟨5, c.tower.name, txState⟩]
def beamAt (c : Carillon) (b : Beam) : List Trouble := if c.stress < strV b then [⟨6, b.name, txStress⟩] else if c.bending < benV b then [⟨6, b.name, txBending⟩] else []
theorem beamAt_le (c : Carillon) (b : Beam) : (beamAt c b).length ≤ 1 := by
  unfold beamAt
  split
  · simp
  · split <;> simp
theorem tow0_le (c : Carillon) : (tow0 c).length ≤ 1 := by
  unfold tow0
  split
  · split <;> simp
  · simp
def towerL (c : Carillon) : List Trouble := tow0 c ++ upTo (beamAt c) c.frame c.frame.length
theorem tower_le (c : Carillon) (i : Nat) : (tow0 c ++ upTo (beamAt c) c.frame i).length ≤ i + 1 := by
  have h1 := tow0_le c
  have h2 := upTo_le (beamAt_le c) c.frame i
  rw [List.length_append]
  omega
theorem frame_in {l : List Beam} (h : frameOk l = true) : l.length ≤ 24 ∧ ∀ b ∈ l, BeamIn b := by
  simp only [frameOk, Bool.and_eq_true, decide_eq_true_eq] at h
  exact ⟨by omega, fun b hb => beamIn (upOk_mem h.1 b hb)⟩
set_option maxHeartbeats 8000000 in
theorem c_towerTroubles (c : Carillon) (hc : CarOk c) : HFn Tryz.prog 37 [.agg c.cells] [] (.sf 0 3) [trO (towerL c)] := by
  have hl := hc.hl
  obtain ⟨hf, hbe⟩ := frame_in hc.fram
  have kS := c_impl_SwingsOf c.hung (by omega)
  have eC : swCode c.hung = sCode c.hung := by simp [swCode, hc.hung]
  have eO : swOut c.hung = swingsL c.hung := by simp [swOut, hc.hung]
  rw [eC, eO] at kS
  have hsl := swingsL_len c.hung
  have kP := c_impl_IsPermitted c.tower (swingsL c.hung) hc.tow (by omega)
  have kB1 := fun b hb => c_stressOf b (hbe b hb)
  have kB2 := fun b hb => c_bendingOf b (hbe b hb)
  simp only [Tower.cells, Beam.cells] at kP kB1 kB2
  refine hfn_intro hm Tryz.func37 (by kernel_rfl) rfl (by kernel_rfl) rfl (fun _ _ h => h) ?_
  simp [Carillon.cells]
  refine CallZ.use kS rfl (.inr ⟨Swing.flat _, trivial⟩) rfl rfl ?_
  cases hs : sfine c.hung
  · -- one of the swings is none
    have hc6 : sCode c.hung = 6 := by simp [sCode, hs]
    have ht0 : tow0 c = [⟨5, c.tower.name, txState⟩] := by simp [tow0, hs]
    rw [hc6]
    simp
    refine CallZ.use0 c_impl_CodeName6 rfl rfl ?_
    simp
    simp [Beam.rows_len]
    refine ⟨by simp [rowsOne], ?_⟩
    refine loop_upto hm c.frame.length (fun i => ⟨[(1, .pb 0 0), (3, .sf 1 3), (40, .sl 6 (Beam.rows c.frame)), (41, .int .i64 c.frame.length), (42, .int .i64 i)], [some (.box c.cells), trO (tow0 c ++ upTo (beamAt c) c.frame i)]⟩) (fun _ => True) (by kernel_rfl) ?_ trivial (fun i hi _ => ?_) (fun _ => ?_)
    · rw [upTo_zero, List.append_nil, ht0]
      exact Wk.weak (ρ := [0, 3]) (φ := []) (by simp [Carillon.cells, Trouble.rows, Trouble.cells])
    · have w1 : IntKind.i64.wrap ((i : Int) + 1) = (i : Int) + 1 := w64 (by omega) (by omega)
      have hlen := tower_le c i
      rw [upTo_succ _ _ hi, ← List.append_assoc]
      generalize tow0 c ++ upTo (beamAt c) c.frame i = T at hlen ⊢
      simp [Carillon.cells, Beam.rows, Beam.cells, hi]
      refine CallZ.use0 (kB1 c.frame[i] (List.getElem_mem hi)) rfl rfl ?_
      by_cases h1 : c.stress < strV c.frame[i]
      · simp [h1, Trouble.rows_len]
        refine ⟨by simp [rowsOne], by omega, by omega, Wk.weak (ρ := [0, 1]) (φ := []) ?_⟩
        simp [w1, beamAt, h1, Trouble.rows, Trouble.cells, txStress]
      · simp [h1]
        refine CallZ.use0 (kB2 c.frame[i] (List.getElem_mem hi)) rfl rfl ?_
        by_cases h2 : c.bending < benV c.frame[i]
        · simp [h2, Trouble.rows_len]
          refine ⟨by simp [rowsOne], by omega, by omega, Wk.weak (ρ := [0, 1]) (φ := []) ?_⟩
          simp [w1, beamAt, h1, h2, Trouble.rows, Trouble.cells, txBending]
        · simp [h2]
          refine Wk.weak (ρ := [0, 1]) (φ := []) ?_
          simp [w1, beamAt, h1, h2]
    · simp
      exact Wk.weak (ρ := [1]) (φ := []) (by simp [towerL])
  · have hc0 : sCode c.hung = 0 := by simp [sCode, hs]
    rw [hc0]
    simp
    refine CallZ.use0 kP rfl rfl ?_
    cases hp : permV c.tower (swingsL c.hung)
    · have ht0 : tow0 c = [⟨5, c.tower.name, txSway⟩] := by simp [tow0, hs, hp]
      simp
      simp [Beam.rows_len]
      refine ⟨by simp [rowsOne], ?_⟩
      refine loop_upto hm c.frame.length (fun i => ⟨[(1, .pb 0 0), (3, .sf 1 3), (40, .sl 6 (Beam.rows c.frame)), (41, .int .i64 c.frame.length), (42, .int .i64 i)], [some (.box c.cells), trO (tow0 c ++ upTo (beamAt c) c.frame i)]⟩) (fun _ => True) (by kernel_rfl) ?_ trivial (fun i hi _ => ?_) (fun _ => ?_)
      · rw [upTo_zero, List.append_nil, ht0]
        exact Wk.weak (ρ := [0, 3]) (φ := []) (by simp [Carillon.cells, Trouble.rows, Trouble.cells, txSway])
      · have w1 : IntKind.i64.wrap ((i : Int) + 1) = (i : Int) + 1 := w64 (by omega) (by omega)
        have hlen := tower_le c i
        rw [upTo_succ _ _ hi, ← List.append_assoc]
        generalize tow0 c ++ upTo (beamAt c) c.frame i = T at hlen ⊢
        simp [Carillon.cells, Beam.rows, Beam.cells, hi]
        refine CallZ.use0 (kB1 c.frame[i] (List.getElem_mem hi)) rfl rfl ?_
        by_cases h1 : c.stress < strV c.frame[i]
        · simp [h1, Trouble.rows_len]
          refine ⟨by simp [rowsOne], by omega, by omega, Wk.weak (ρ := [0, 1]) (φ := []) ?_⟩
          simp [w1, beamAt, h1, Trouble.rows, Trouble.cells, txStress]
        · simp [h1]
          refine CallZ.use0 (kB2 c.frame[i] (List.getElem_mem hi)) rfl rfl ?_
          by_cases h2 : c.bending < benV c.frame[i]
          · simp [h2, Trouble.rows_len]
            refine ⟨by simp [rowsOne], by omega, by omega, Wk.weak (ρ := [0, 1]) (φ := []) ?_⟩
            simp [w1, beamAt, h1, h2, Trouble.rows, Trouble.cells, txBending]
          · simp [h2]
            refine Wk.weak (ρ := [0, 1]) (φ := []) ?_
            simp [w1, beamAt, h1, h2]
      · simp
        exact Wk.weak (ρ := [1]) (φ := []) (by simp [towerL])
    · have ht0 : tow0 c = [] := by simp [tow0, hs, hp]
      simp
      simp [Beam.rows_len]
      refine loop_upto hm c.frame.length (fun i => ⟨[(1, .pb 0 0), (3, .sf 1 3), (40, .sl 6 (Beam.rows c.frame)), (41, .int .i64 c.frame.length), (42, .int .i64 i)], [some (.box c.cells), trO (tow0 c ++ upTo (beamAt c) c.frame i)]⟩) (fun _ => True) (by kernel_rfl) ?_ trivial (fun i hi _ => ?_) (fun _ => ?_)
      · rw [upTo_zero, List.append_nil, ht0]
        exact (weak_nil (t := 3) (z := 3) rfl).trans (Wk.weak (ρ := [0, 2]) (φ := []) (by simp [Carillon.cells, Trouble.rows]))
      · have w1 : IntKind.i64.wrap ((i : Int) + 1) = (i : Int) + 1 := w64 (by omega) (by omega)
        have hlen := tower_le c i
        rw [upTo_succ _ _ hi, ← List.append_assoc]
        generalize tow0 c ++ upTo (beamAt c) c.frame i = T at hlen ⊢
        simp [Carillon.cells, Beam.rows, Beam.cells, hi]
        refine CallZ.use0 (kB1 c.frame[i] (List.getElem_mem hi)) rfl rfl ?_
        by_cases h1 : c.stress < strV c.frame[i]
        · simp [h1, Trouble.rows_len]
          refine ⟨by simp [rowsOne], by omega, by omega, Wk.weak (ρ := [0, 1]) (φ := []) ?_⟩
          simp [w1, beamAt, h1, Trouble.rows, Trouble.cells, txStress]
        · simp [h1]
          refine CallZ.use0 (kB2 c.frame[i] (List.getElem_mem hi)) rfl rfl ?_
          by_cases h2 : c.bending < benV c.frame[i]
          · simp [h2, Trouble.rows_len]
            refine ⟨by simp [rowsOne], by omega, by omega, Wk.weak (ρ := [0, 1]) (φ := []) ?_⟩
            simp [w1, beamAt, h1, h2, Trouble.rows, Trouble.cells, txBending]
          · simp [h2]
            refine Wk.weak (ρ := [0, 1]) (φ := []) ?_
            simp [w1, beamAt, h1, h2]
      · simp
        exact Wk.weak (ρ := [1]) (φ := []) (by simp [towerL])
/-! ### The tune -/
def hasNote (bs : List Bell) (n : Int) : Bool := bs.any fun b => decide (b.note = n)
def musicAt (c : Carillon) (n : Int) : List Trouble := if hasNote c.bells n = true then (if 0 ≤ keyAt c.clavier n then [] else [⟨7, noteT n, txKey⟩]) else [⟨8, noteT n, txBell⟩]
theorem musicAt_le (c : Carillon) (n : Int) : (musicAt c n).length ≤ 1 := by
  unfold musicAt
  split
  · split <;> simp
  · simp
def musicL (c : Carillon) : List Trouble := upTo (musicAt c) (notesL c.tune) (notesL c.tune).length
theorem c_musicT1 (x : Tone) : HFn Tryz.prog 121 [.agg x.cells] [] (.bool true) [] := by
  refine hfn_intro hm Tryz.func121 (by kernel_rfl) rfl (by kernel_rfl) rfl ret0_ok ?_
  simp [Tone.cells]
theorem c_musicT2 (b : Bell) (n : Int) (rows : List (List PV)) (i0 : Nat) (hr : rows[i0]? = some [.int .i64 n]) : HFn Tryz.prog 124 [.agg b.cells, .pe 1 rows i0 0] [] (.bool (decide (b.note = n))) [] := by
  have hi : i0 < rows.length := (List.getElem?_eq_some_iff.1 hr).1
  have hx0 : rows[i0] = [.int .i64 n] := (List.getElem?_eq_some_iff.1 hr).2
  refine hfn_intro hm Tryz.func124 (by kernel_rfl) rfl (by kernel_rfl) rfl ret0_ok ?_
  simp [hi, hx0, Bell.cells]
set_option maxHeartbeats 8000000 in
theorem c_musicTroubles (c : Carillon) (hc : CarOk c) : HFn Tryz.prog 38 [.agg c.cells] [] (.sf 0 3) [trO (musicL c)] := by
  have hb := (belOk_of hc.bel).len
  obtain ⟨hn1, hn2⟩ := notesL_in hc.tune
  have kN := c_notesOf c.tune 121 c_musicT1 hc.small.tones
  have kK := fun n => c_impl_KeyFor c.clavier n hc.clav
  simp only [Tune.cells] at kN
  unfold musicL
  refine hfn_intro hm Tryz.func38 (by kernel_rfl) rfl (by kernel_rfl) rfl (fun _ _ h => h) ?_
  simp [Carillon.cells]
  refine CallZ.use kN rfl (.inr ⟨flat_intRows _, trivial⟩) rfl rfl ?_
  generalize notesL c.tune = L at *
  simp [intRows_len]
  refine loop_upto hm L.length (fun i => ⟨[(1, .pb 0 0), (3, .sf 2 3), (10, .sf 1 1), (11, .int .i64 L.length), (12, .int .i64 i)], [some (.box c.cells), some (.arr 1 (intRows L)), trO (upTo (musicAt c) L i)]⟩) (fun _ => True) (by kernel_rfl) ?_ trivial (fun i hi _ => ?_) (fun _ => ?_)
  · exact (weak_nil (t := 3) (z := 3) rfl).trans (Wk.weak (ρ := [0, 1, 2]) (φ := []) (by simp [Carillon.cells, upTo_zero, Trouble.rows]))
  · have w1 : IntKind.i64.wrap ((i : Int) + 1) = (i : Int) + 1 := w64 (by omega) (by omega)
    have hlen := upTo_le (musicAt_le c) L i
    obtain ⟨n0, n1⟩ := hn2 _ (List.getElem_mem hi)
    rw [upTo_succ _ _ hi]
    generalize upTo (musicAt c) L i = T at hlen ⊢
    have eg : (intRows L)[i]'(by rw [intRows_len]; exact hi) = [.int .i64 L[i]] := by rw [intRows_get]
    generalize L[i] = n at *
    have kI : HFn Tryz.prog 123 [.sl 5 (Bell.rows c.bells), .fn 124 [.pe 1 [[.int .i64 n]] 0 0]] [] (.bool (hasNote c.bells n)) [] :=
      c_ContainsFuncBell1 124 1 [[.int .i64 n]] 0 0 (fun b => decide (b.note = n)) c.bells (fun b _ => c_musicT2 b n _ 0 rfl) (by omega)
    simp [Carillon.cells, hi, intRows_len, eg]
    refine CallZ.use0 (kK n) rfl rfl ?_
    simp [keyP]
    refine CallZ.use0 kI rfl rfl ?_
    cases hh : hasNote c.bells n
    · simp
      refine CallZ.use0 (c_NoteName n n0 n1) rfl rfl ?_
      simp [Trouble.rows_len]
      refine ⟨by simp [rowsOne], by omega, by omega, Wk.weak (ρ := [0, 1, 2]) (φ := []) ?_⟩
      simp [w1, musicAt, hh, Trouble.rows, Trouble.cells, txBell]
    · by_cases hk : 0 ≤ keyAt c.clavier n
      · simp [hk]
        refine Wk.weak (ρ := [0, 1, 2]) (φ := []) ?_
        simp [w1, musicAt, hh, hk]
      · simp [hk]
        refine CallZ.use0 (c_NoteName n n0 n1) rfl rfl ?_
        simp [Trouble.rows_len]
        refine ⟨by simp [rowsOne], by omega, by omega, Wk.weak (ρ := [0, 1, 2]) (φ := []) ?_⟩
        simp [w1, musicAt, hh, hk, Trouble.rows, Trouble.cells, txKey]
  · simp
    exact Wk.weak (ρ := [2]) (φ := []) (by simp)
end Go.Proofs.YtcjpfjklhhclmaaGreatDoor
