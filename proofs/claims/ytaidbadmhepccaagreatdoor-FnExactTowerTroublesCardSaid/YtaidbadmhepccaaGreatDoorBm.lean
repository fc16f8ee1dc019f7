/- Contracts: troubles of the tower and of the tune. No condition. -/
import Derived.Test.YtaidbadmhepccaaGreatDoorBk
import Derived.Test.YtaidbadmhepccaaGreatDoorKc
import Derived.Test.YtaidbadmhepccaaGreatDoorBa
import Derived.Shelf.Small.Bits
import Derived.Shelf.Strconv.Itoa0
import Derived.Shelf.Strconv.Itoa1
import Derived.Shelf.LaysM
import Derived.Shelf.Strconv.Itoa2
import Derived.Shelf.Strconv.Itoa3
import Derived.Shelf.Strconv.Itoa4
import Derived.Ground.SlgnProg
import Derived.Shelf.SlicesG.CompactI
import Derived.Shelf.SlicesG.Cells
import Derived.Ground.SlgmProg
import Derived.Shelf.SortM.Plain
import Derived.Shelf.SortM.SortNone
import Derived.Test.YtaidbadmhepccaaGreatDoorProg
import Derived.Test.YtaidbadmhepccaaGreatDoorCm
import Derived.Sort.OwnSortedInts
import Derived.Lib.SlicesCompact
import Derived.Test.YtaidbadmhepccaaGreatDoorUc
import Derived.Test.YtaidbadmhepccaaGreatDoorJc
import Derived.Test.YtaidbadmhepccaaGreatDoorCe
import Derived.Test.YtaidbadmhepccaaGreatDoorTI
import Derived.Test.YtaidbadmhepccaaGreatDoorBi
import Derived.Test.YtaidbadmhepccaaGreatDoorKe
namespace Go.Proofs.YtaidbadmhepccaaGreatDoor
open Go Go.Ab
set_option maxRecDepth 100000

def txState : List UInt8 := [115, 116, 97, 116, 101]
def txSway : List UInt8 := [115, 119, 97, 121]
def txStress : List UInt8 := [115, 116, 114, 101, 115, 115]
def txBending : List UInt8 := [98, 101, 110, 100, 105, 110, 103]
theorem c_impl_CodeName6 : HFn Tryz.prog 88 [.int .i64 6] [] (.str txState) [] := by
  refine hfn_intro hm Tryz.func88 (by kernel_rfl) rfl (by kernel_rfl) rfl ret0_ok ?_
  simp [txState]
theorem c_spec_CodeName6 : HFn Tryz.prog 140 [.int .i64 6] [] (.str txState) [] := by
  refine hfn_intro hm Tryz.func140 (by kernel_rfl) rfl (by kernel_rfl) rfl ret0_ok ?_
  simp
  refine CallZ.use0 (c_l00In _ _ _) rfl rfl ?_
  simp [txState]
  decide

/-! ### The tower -/
def tow0 (c : Carillon) : List Trouble := if sfine c.hung = true then (if permV c.tower (swingsL c.hung) = true then [] else [⟨5, c.tower.name, txSway⟩]) else [⟨5, c.tower.name, txState⟩]
def beamAt (c : Carillon) (b : Beam) : List Trouble := if c.stress < strV b then [⟨6, b.name, txStress⟩] else if c.bending < benV b then [⟨6, b.name, txBending⟩] else []
theorem beamAt_le (c : Carillon) (b : Beam) : (beamAt c b).length ≤ 1 := by
  unfold beamAt
  split
  · simp
  · split <;> simp
theorem tow0_le (c : Carillon) : (tow0 c).length ≤ 1 := by
  unfold tow0
  split
  · split <;> simp
  · simp
def towerL (c : Carillon) : List Trouble := tow0 c ++ upTo (beamAt c) c.frame c.frame.length
theorem tower_le (c : Carillon) (i : Nat) : (tow0 c ++ upTo (beamAt c) c.frame i).length ≤ i + 1 := by
  have h1 := tow0_le c
  have h2 := upTo_le (beamAt_le c) c.frame i
  rw [List.length_append]
  omega
theorem frame_in {l : List Beam} (h : frameOk l = true) : l.length ≤ 24 ∧ ∀ b ∈ l, BeamIn b := by
  simp only [frameOk, Bool.and_eq_true, decide_eq_true_eq] at h
  exact ⟨by omega, fun b hb => beamIn (upOk_mem h.1 b hb)⟩
set_option maxHeartbeats 8000000 in
theorem c_towerTroubles (c : Carillon) (hc : CarOk c) : HFn Tryz.prog 40 [.agg c.cells] [] (.sf 0 3) [trO (towerL c)] := by
  have hl := hc.hl
  obtain ⟨hf, hbe⟩ := frame_in hc.fram
  have kS := c_impl_SwingsOf c.hung (by omega)
  have eC : swCode c.hung = sCode c.hung := by simp [swCode, hc.hung]
  have eO : swOut c.hung = swingsL c.hung := by simp [swOut, hc.hung]
  rw [eC, eO] at kS
  have hsl := swingsL_len c.hung
  have kP := c_impl_IsPermitted c.tower (swingsL c.hung) hc.tow (by omega)
  have kB1 := fun b hb => c_stressOf b (hbe b hb)
  have kB2 := fun b hb => c_bendingOf b (hbe b hb)
  simp only [Tower.cells, Beam.cells] at kP kB1 kB2
  refine hfn_intro hm Tryz.func40 (by kernel_rfl) rfl (by kernel_rfl) rfl (fun _ _ h => h) ?_
  simp [Carillon.cells]
  refine CallZ.use kS rfl (.inr ⟨Swing.flat _, trivial⟩) rfl rfl ?_
  cases hs : sfine c.hung
  · -- one of the swings is none
    have hc6 : sCode c.hung = 6 := by simp [sCode, hs]
    have ht0 : tow0 c = [⟨5, c.tower.name, txState⟩] := by simp [tow0, hs]
    rw [hc6]
    simp
    refine CallZ.use0 c_impl_CodeName6 rfl rfl ?_
    simp
    simp [Beam.rows_len]
    refine ⟨by simp [rowsOne], ?_⟩
    refine loop_upto hm c.frame.length (fun i => ⟨[(1, .pb 0 0), (3, .sf 1 3), (40, .sl 6 (Beam.rows c.frame)), (41, .int .i64 c.frame.length), (42, .int .i64 i)], [some (.box c.cells), trO (tow0 c ++ upTo (beamAt c) c.frame i)]⟩) (fun _ => True) (by kernel_rfl) ?_ trivial (fun i hi _ => ?_) (fun _ => ?_)
    · rw [upTo_zero, List.append_nil, ht0]
      exact Wk.weak (ρ := [0, 3]) (φ := []) (by simp [Carillon.cells, Trouble.rows, Trouble.cells])
    · have w1 : IntKind.i64.wrap ((i : Int) + 1) = (i : Int) + 1 := w64 (by omega) (by omega)
      have hlen := tower_le c i
      rw [upTo_succ _ _ hi, ← List.append_assoc]
      generalize tow0 c ++ upTo (beamAt c) c.frame i = T at hlen ⊢
      simp [Carillon.cells, Beam.rows, Beam.cells, hi]
      refine CallZ.use0 (kB1 c.frame[i] (List.getElem_mem hi)) rfl rfl ?_
      by_cases h1 : c.stress < strV c.frame[i]
      · simp [h1, Trouble.rows_len]
        refine ⟨by simp [rowsOne], by omega, by omega, Wk.weak (ρ := [0, 1]) (φ := []) ?_⟩
        simp [w1, beamAt, h1, Trouble.rows, Trouble.cells, txStress]
      · simp [h1]
        refine CallZ.use0 (kB2 c.frame[i] (List.getElem_mem hi)) rfl rfl ?_
        by_cases h2 : c.bending < benV c.frame[i]
        · simp [h2, Trouble.rows_len]
          refine ⟨by simp [rowsOne], by omega, by omega, Wk.weak (ρ := [0, 1]) (φ := []) ?_⟩
          simp [w1, beamAt, h1, h2, Trouble.rows, Trouble.cells, txBending]
        · simp [h2]
          refine Wk.weak (ρ := [0, 1]) (φ := []) ?_
          simp [w1, beamAt, h1, h2]
    · simp
      exact Wk.weak (ρ := [1]) (φ := []) (by simp [towerL])
  · have hc0 : sCode c.hung = 0 := by simp [sCode, hs]
    rw [hc0]
    simp
    refine CallZ.use0 kP rfl rfl ?_
    cases hp : permV c.tower (swingsL c.hung)
    · have ht0 : tow0 c = [⟨5, c.tower.name, txSway⟩] := by simp [tow0, hs, hp]
      simp
      simp [Beam.rows_len]
      refine ⟨by simp [rowsOne], ?_⟩
      refine loop_upto hm c.frame.length (fun i => ⟨[(1, .pb 0 0), (3, .sf 1 3), (40, .sl 6 (Beam.rows c.frame)), (41, .int .i64 c.frame.length), (42, .int .i64 i)], [some (.box c.cells), trO (tow0 c ++ upTo (beamAt c) c.frame i)]⟩) (fun _ => True) (by kernel_rfl) ?_ trivial (fun i hi _ => ?_) (fun _ => ?_)
      · rw [upTo_zero, List.append_nil, ht0]
        exact Wk.weak (ρ := [0, 3]) (φ := []) (by simp [Carillon.cells, Trouble.rows, Trouble.cells, txSway])
      · have w1 : IntKind.i64.wrap ((i : Int) + 1) = (i : Int) + 1 := w64 (by omega) (by omega)
        have hlen := tower_le c i
        rw [upTo_succ _ _ hi, ← List.append_assoc]
        generalize tow0 c ++ upTo (beamAt c) c.frame i = T at hlen ⊢
        simp [Carillon.cells, Beam.rows, Beam.cells, hi]
        refine CallZ.use0 (kB1 c.frame[i] (List.getElem_mem hi)) rfl rfl ?_
        by_cases h1 : c.stress < strV c.frame[i]
        · simp [h1, Trouble.rows_len]
          refine ⟨by simp [rowsOne], by omega, by omega, Wk.weak (ρ := [0, 1]) (φ := []) ?_⟩
          simp [w1, beamAt, h1, Trouble.rows, Trouble.cells, txStress]
        · simp [h1]
          refine CallZ.use0 (kB2 c.frame[i] (List.getElem_mem hi)) rfl rfl ?_
          by_cases h2 : c.bending < benV c.frame[i]
          · simp [h2, Trouble.rows_len]
            refine ⟨by simp [rowsOne], by omega, by omega, Wk.weak (ρ := [0, 1]) (φ := []) ?_⟩
            simp [w1, beamAt, h1, h2, Trouble.rows, Trouble.cells, txBending]
          · simp [h2]
            refine Wk.weak (ρ := [0, 1]) (φ := []) ?_
            simp [w1, beamAt, h1, h2]
      · simp
        exact Wk.weak (ρ := [1]) (φ := []) (by simp [towerL])
    · have ht0 : tow0 c = [] := by simp [tow0, hs, hp]
      simp
      simp [Beam.rows_len]
      refine loop_upto hm c.frame.length (fun i => ⟨[(1, .pb 0 0), (3, .sf 1 3), (40, .sl 6 (Beam.rows c.frame)), (41, .int .i64 c.frame.length), (42, .int .i64 i)], [some (.box c.cells), trO (tow0 c ++ upTo (beamAt c) c.frame i)]⟩) (fun _ => True) (by kernel_rfl) ?_ trivial (fun i hi _ => ?_) (fun _ => ?_)
      · rw [upTo_zero, List.append_nil, ht0]
        exact (weak_nil (t := 3) (z := 3) rfl).trans (Wk.weak (ρ := [0, 2]) (φ := []) (by simp [Carillon.cells, Trouble.rows]))
      · have w1 : IntKind.i64.wrap ((i : Int) + 1) = (i : Int) + 1 := w64 (by omega) (by omega)
        have hlen := tower_le c i
        rw [upTo_succ _ _ hi, ← List.append_assoc]
        generalize tow0 c ++ upTo (beamAt c) c.frame i = T at hlen ⊢
        simp [Carillon.cells, Beam.rows, Beam.cells, hi]
        refine CallZ.use0 (kB1 c.frame[i] (List.getElem_mem hi)) rfl rfl ?_
        by_cases h1 : c.stress < strV c.frame[i]
        · simp [h1, Trouble.rows_len]
          refine ⟨by simp [rowsOne], by omega, by omega, Wk.weak (ρ := [0, 1]) (φ := []) ?_⟩
          simp [w1, beamAt, h1, Trouble.rows, Trouble.cells, txStress]
        · simp [h1]
          refine CallZ.use0 (kB2 c.frame[i] (List.getElem_mem hi)) rfl rfl ?_
          by_cases h2 : c.bending < benV c.frame[i]
          · simp [h2, Trouble.rows_len]
            refine ⟨by simp [rowsOne], by omega, by omega, Wk.weak (ρ := [0, 1]) (φ := []) ?_⟩
            simp [w1, beamAt, h1, h2, Trouble.rows, Trouble.cells, txBending]
          · simp [h2]
            refine Wk.weak (ρ := [0, 1]) (φ := []) ?_
            simp [w1, beamAt, h1, h2]
      · simp
        exact Wk.weak (ρ := [1]) (φ := []) (by simp [towerL])
set_option maxHeartbeats 8000000 in
theorem c_l31Tower (c : Carillon) (tl : List PV) (w : Nat) (rows : List (List PV)) (i0 : Nat) (hr : rows[i0]? = some (c.cells ++ tl)) (hc : CarOk c) : HFn Tryz.prog 76 [.pe (w + 20) rows i0 0] [] (.sf 0 3) [trO (towerL c)] := by
  have hl := hc.hl
  obtain ⟨hf, hbe⟩ := frame_in hc.fram
  have kS := c_l31Swings c.hung (by omega) (hungs_mem hc.hung).2
  have hsl := swingsL_len c.hung
  have kP := c_spec_IsPermitted c.tower (swingsL c.hung) hc.tow (by omega)
  have kB1 := fun b hb rows i hr => c_l21Stress b (hbe b hb) rows i hr
  have kB2 := fun b hb rows i hr => c_l21Bending b (hbe b hb) rows i hr
  simp only [Tower.cells] at kP
  have hi0 : i0 < rows.length := (List.getElem?_eq_some_iff.1 hr).1
  have hx : rows[i0] = c.cells ++ tl := (List.getElem?_eq_some_iff.1 hr).2
  rw [Carillon.cells] at hr hx
  simp only [List.cons_append, List.nil_append] at hr hx
  refine hfn_intro hm Tryz.func76 (by kernel_rfl) rfl (by kernel_rfl) rfl (fun _ _ h => h) ?_
  simp [hi0, hx]
  refine CallZ.use kS rfl (.inr ⟨Swing.flat _, trivial⟩) rfl rfl ?_
  cases hs : sfine c.hung
  · have hc6 : sCode c.hung = 6 := by simp [sCode, hs]
    have ht0 : tow0 c = [⟨5, c.tower.name, txState⟩] := by simp [tow0, hs]
    rw [hc6]
    simp [hi0, hx]
    refine CallZ.use0 c_spec_CodeName6 rfl rfl ?_
    simp
    refine ⟨by simp [rowsOne], ?_⟩
    refine loop_upto hm c.frame.length (fun i => ⟨[(0, .pe (w + 20) rows i0 0), (3, .sf 0 3), (6, .int .i64 i)], [trO (tow0 c ++ upTo (beamAt c) c.frame i)]⟩) (fun _ => True) (by kernel_rfl) ?_ trivial (fun i hi _ => ?_) (fun _ => ?_)
    · rw [upTo_zero, List.append_nil, ht0]
      exact Wk.weak (ρ := [2]) (φ := []) (by simp [Trouble.rows, Trouble.cells])
    · have w1 : IntKind.i64.wrap ((i : Int) + 1) = (i : Int) + 1 := w64 (by omega) (by omega)
      have hlen := tower_le c i
      rw [upTo_succ _ _ hi, ← List.append_assoc]
      generalize tow0 c ++ upTo (beamAt c) c.frame i = T at hlen ⊢
      simp [hi0, hx, Beam.rows, hi]
      refine CallZ.use0 (kB1 c.frame[i] (List.getElem_mem hi) _ i (by simp [hi])) rfl rfl ?_
      by_cases h1 : c.stress < strV c.frame[i]
      · simp [hi0, hx, Beam.rows, Beam.cells, hi, h1, Trouble.rows_len]
        refine ⟨by simp [rowsOne], by omega, by omega, Wk.weak (ρ := [0]) (φ := []) ?_⟩
        simp [w1, beamAt, h1, Trouble.rows, Trouble.cells, txStress]
      · simp [hi0, hx, Beam.rows, Beam.cells, hi, h1]
        refine CallZ.use0 (kB2 c.frame[i] (List.getElem_mem hi) _ i (by simp [hi])) rfl rfl ?_
        by_cases h2 : c.bending < benV c.frame[i]
        · simp [hi0, hx, Beam.rows, Beam.cells, hi, h2, Trouble.rows_len]
          refine ⟨by simp [rowsOne], by omega, by omega, Wk.weak (ρ := [0]) (φ := []) ?_⟩
          simp [w1, beamAt, h1, h2, Trouble.rows, Trouble.cells, txBending]
        · simp [hi0, hx, Beam.rows, Beam.cells, hi, h2]
          refine Wk.weak (ρ := [0]) (φ := []) ?_
          simp [w1, beamAt, h1, h2]
    · simp [hi0, hx, Beam.rows_len]
      exact Wk.weak (ρ := [0]) (φ := []) (by simp [towerL])
  · have hc0 : sCode c.hung = 0 := by simp [sCode, hs]
    rw [hc0]
    simp [hi0, hx]
    refine CallZ.use0 kP rfl rfl ?_
    cases hp : permV c.tower (swingsL c.hung)
    · have ht0 : tow0 c = [⟨5, c.tower.name, txSway⟩] := by simp [tow0, hs, hp]
      simp [hi0, hx]
      refine ⟨by simp [rowsOne], ?_⟩
      refine loop_upto hm c.frame.length (fun i => ⟨[(0, .pe (w + 20) rows i0 0), (3, .sf 0 3), (6, .int .i64 i)], [trO (tow0 c ++ upTo (beamAt c) c.frame i)]⟩) (fun _ => True) (by kernel_rfl) ?_ trivial (fun i hi _ => ?_) (fun _ => ?_)
      · rw [upTo_zero, List.append_nil, ht0]
        exact Wk.weak (ρ := [2]) (φ := []) (by simp [Trouble.rows, Trouble.cells, txSway])
      · have w1 : IntKind.i64.wrap ((i : Int) + 1) = (i : Int) + 1 := w64 (by omega) (by omega)
        have hlen := tower_le c i
        rw [upTo_succ _ _ hi, ← List.append_assoc]
        generalize tow0 c ++ upTo (beamAt c) c.frame i = T at hlen ⊢
        simp [hi0, hx, Beam.rows, hi]
        refine CallZ.use0 (kB1 c.frame[i] (List.getElem_mem hi) _ i (by simp [hi])) rfl rfl ?_
        by_cases h1 : c.stress < strV c.frame[i]
        · simp [hi0, hx, Beam.rows, Beam.cells, hi, h1, Trouble.rows_len]
          refine ⟨by simp [rowsOne], by omega, by omega, Wk.weak (ρ := [0]) (φ := []) ?_⟩
          simp [w1, beamAt, h1, Trouble.rows, Trouble.cells, txStress]
        · simp [hi0, hx, Beam.rows, Beam.cells, hi, h1]
          refine CallZ.use0 (kB2 c.frame[i] (List.getElem_mem hi) _ i (by simp [hi])) rfl rfl ?_
          by_cases h2 : c.bending < benV c.frame[i]
          · simp [hi0, hx, Beam.rows, Beam.cells, hi, h2, Trouble.rows_len]
            refine ⟨by simp [rowsOne], by omega, by omega, Wk.weak (ρ := [0]) (φ := []) ?_⟩
            simp [w1, beamAt, h1, h2, Trouble.rows, Trouble.cells, txBending]
          · simp [hi0, hx, Beam.rows, Beam.cells, hi, h2]
            refine Wk.weak (ρ := [0]) (φ := []) ?_
            simp [w1, beamAt, h1, h2]
      · simp [hi0, hx, Beam.rows_len]
        exact Wk.weak (ρ := [0]) (φ := []) (by simp [towerL])
    · have ht0 : tow0 c = [] := by simp [tow0, hs, hp]
      simp
      skip
      refine loop_upto hm c.frame.length (fun i => ⟨[(0, .pe (w + 20) rows i0 0), (3, .sf 0 3), (6, .int .i64 i)], [trO (tow0 c ++ upTo (beamAt c) c.frame i)]⟩) (fun _ => True) (by kernel_rfl) ?_ trivial (fun i hi _ => ?_) (fun _ => ?_)
      · rw [upTo_zero, List.append_nil, ht0]
        exact (weak_nil (t := 3) (z := 3) rfl).trans (Wk.weak (ρ := [1]) (φ := []) (by simp [Trouble.rows]))
      · have w1 : IntKind.i64.wrap ((i : Int) + 1) = (i : Int) + 1 := w64 (by omega) (by omega)
        have hlen := tower_le c i
        rw [upTo_succ _ _ hi, ← List.append_assoc]
        generalize tow0 c ++ upTo (beamAt c) c.frame i = T at hlen ⊢
        simp [hi0, hx, Beam.rows, hi]
        refine CallZ.use0 (kB1 c.frame[i] (List.getElem_mem hi) _ i (by simp [hi])) rfl rfl ?_
        by_cases h1 : c.stress < strV c.frame[i]
        · simp [hi0, hx, Beam.rows, Beam.cells, hi, h1, Trouble.rows_len]
          refine ⟨by simp [rowsOne], by omega, by omega, Wk.weak (ρ := [0]) (φ := []) ?_⟩
          simp [w1, beamAt, h1, Trouble.rows, Trouble.cells, txStress]
        · simp [hi0, hx, Beam.rows, Beam.cells, hi, h1]
          refine CallZ.use0 (kB2 c.frame[i] (List.getElem_mem hi) _ i (by simp [hi])) rfl rfl ?_
          by_cases h2 : c.bending < benV c.frame[i]
          · simp [hi0, hx, Beam.rows, Beam.cells, hi, h2, Trouble.rows_len]
            refine ⟨by simp [rowsOne], by omega, by omega, Wk.weak (ρ := [0]) (φ := []) ?_⟩
            simp [w1, beamAt, h1, h2, Trouble.rows, Trouble.cells, txBending]
          · simp [hi0, hx, Beam.rows, Beam.cells, hi, h2]
            refine Wk.weak (ρ := [0]) (φ := []) ?_
            simp [w1, beamAt, h1, h2]
      · simp [hi0, hx, Beam.rows_len]
        exact Wk.weak (ρ := [0]) (φ := []) (by simp [towerL])

/-! ### The tune -/
end Go.Proofs.YtaidbadmhepccaaGreatDoor
