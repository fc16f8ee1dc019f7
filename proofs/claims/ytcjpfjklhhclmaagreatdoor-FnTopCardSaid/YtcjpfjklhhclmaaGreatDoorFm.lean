/- Contracts: valid carillons. No condition. -/
import Derived.Test.YtcjpfjklhhclmaaGreatDoorFl
namespace Go.Proofs.YtcjpfjklhhclmaaGreatDoor
open Go Go.Ab
set_option maxRecDepth 100000

/-- All lists of a carillon, and those within, are short. -/
structure Carillon.small (c : Carillon) : Prop where
  ingots : c.ingots.length ≤ 1048576
  melts : c.melts.length ≤ 1048576
  meltI : ∀ x ∈ c.melts, x.ingots.length ≤ 1048576
  bells : c.bells.length ≤ 1048576
  bellS : ∀ x ∈ c.bells, x.shares.length ≤ 1048576
  hung : c.hung.length ≤ 1048576
  places : c.places.length ≤ 1048576
  frame : c.frame.length ≤ 1048576
  beamL : ∀ x ∈ c.frame, x.loads.length ≤ 1048576
  clavier : c.clavier.length ≤ 1048576
  actL : ∀ x ∈ c.clavier, x.levers.length ≤ 1048576
  tones : c.tune.tones.length ≤ 1048576
def carOk (c : Carillon) : Bool := ingotsOk c.ingots && meltsOk c.melts && bellsOk c.bells && (hungsOk c.hung && chamberOk c.chamber && placesOk c.places && (decide (0 ≤ c.gap) && decide (c.gap ≤ 5000))) && (towerOk c.tower && frameOk c.frame && (decide (0 ≤ c.stress) && decide (c.stress ≤ 1000000)) && (decide (0 ≤ c.bending) && decide (c.bending ≤ 1000000))) && clavierOk c.clavier && tuneOk c.tune

set_option maxHeartbeats 4000000 in
theorem c_impl_ValidCarillon (c : Carillon) (hs : c.small) : HFn Tryz.prog 108 [.agg c.cells] [] (.bool (carOk c)) [] := by
  have kC := c_ValidChamber c.chamber
  have kT := c_ValidTower c.tower
  have kU := c_impl_ValidTune c.tune hs.tones
  simp only [Chamber.cells, Tower.cells, Tune.cells] at kC kT kU
  refine hfn_intro hm Tryz.func108 (by kernel_rfl) rfl (by kernel_rfl) rfl ret0_ok ?_
  simp [Carillon.cells]
  refine CallZ.use0 (c_impl_ValidIngots c.ingots hs.ingots) rfl rfl ?_
  simp
  repeat refine ⟨by grind, ?_⟩
  refine CallY.use (fun _ => ⟨rfl, c_impl_ValidMelts c.melts hs.melts hs.meltI⟩) rfl rfl ?_
  simp
  repeat refine ⟨by grind, ?_⟩
  refine CallY.use (fun _ => ⟨rfl, c_impl_ValidBells c.bells hs.bells hs.bellS⟩) rfl rfl ?_
  simp
  repeat refine ⟨by grind, ?_⟩
  refine CallZ.use0 (c_validHungs c.hung hs.hung) rfl rfl ?_
  simp
  repeat refine ⟨by grind, ?_⟩
  refine CallY.use (fun _ => ⟨rfl, kC⟩) rfl rfl ?_
  simp
  repeat refine ⟨by grind, ?_⟩
  refine CallY.use (fun _ => ⟨rfl, c_impl_ValidPlaces c.places hs.places⟩) rfl rfl ?_
  simp
  repeat refine ⟨by grind, ?_⟩
  refine CallY.use (fun _ => ⟨rfl, c_isSpace c.gap⟩) rfl rfl ?_
  simp
  repeat refine ⟨by grind, ?_⟩
  refine CallZ.use0 (kT) rfl rfl ?_
  simp
  repeat refine ⟨by grind, ?_⟩
  refine CallY.use (fun _ => ⟨rfl, c_impl_ValidFrame c.frame hs.frame hs.beamL⟩) rfl rfl ?_
  simp
  repeat refine ⟨by grind, ?_⟩
  refine CallY.use (fun _ => ⟨rfl, c_within _ _ _⟩) rfl rfl ?_
  simp
  repeat refine ⟨by grind, ?_⟩
  refine CallY.use (fun _ => ⟨rfl, c_within _ _ _⟩) rfl rfl ?_
  simp
  repeat refine ⟨by grind, ?_⟩
  refine CallY.use (fun _ => ⟨rfl, c_impl_ValidClavier c.clavier hs.clavier hs.actL⟩) rfl rfl ?_
  simp
  repeat refine ⟨by grind, ?_⟩
  refine CallY.use (fun _ => ⟨rfl, kU⟩) rfl rfl ?_
  simp
  repeat refine ⟨by grind, ?_⟩
  simp [carOk]
  try grind

theorem c_l23ChamberC (c : Carillon) (tl : List PV) (w : Nat) (rows : List (List PV)) (i0 : Nat) (hr : rows[i0]? = some (c.cells ++ tl)) : HFn Tryz.prog 42 [.pe (w + 20) rows i0 4] [] (.bool (chamberOk c.chamber)) [] := by
  have hi : i0 < rows.length := (List.getElem?_eq_some_iff.1 hr).1
  have hx : rows[i0] = c.cells ++ tl := (List.getElem?_eq_some_iff.1 hr).2
  rw [Carillon.cells] at hr hx
  simp only [List.cons_append, List.nil_append] at hr hx
  refine hfn_intro hm Tryz.func42 (by kernel_rfl) rfl (by kernel_rfl) rfl ret0_ok ?_
  simp [hi, hx]
  refine CallZ.use0 (c_l00In _ _ _) rfl rfl ?_
  simp [hi, hx]
  repeat refine ⟨by grind, ?_⟩
  refine CallY.use (fun _ => ⟨rfl, c_l00In _ _ _⟩) rfl rfl ?_
  simp [hi, hx]
  repeat refine ⟨by grind, ?_⟩
  refine CallY.use (fun _ => ⟨rfl, c_l00In _ _ _⟩) rfl rfl ?_
  simp
  repeat refine ⟨by grind, ?_⟩
  simp [chamberOk]
theorem c_l22TowerC (c : Carillon) (tl : List PV) (w : Nat) (rows : List (List PV)) (i0 : Nat) (hr : rows[i0]? = some (c.cells ++ tl)) : HFn Tryz.prog 105 [.pe (w + 20) rows i0 9] [] (.bool (towerOk c.tower)) [] := by
  have hi : i0 < rows.length := (List.getElem?_eq_some_iff.1 hr).1
  have hx : rows[i0] = c.cells ++ tl := (List.getElem?_eq_some_iff.1 hr).2
  rw [Carillon.cells] at hr hx
  simp only [List.cons_append, List.nil_append] at hr hx
  refine hfn_intro hm Tryz.func105 (by kernel_rfl) rfl (by kernel_rfl) rfl ret0_ok ?_
  simp [hi, hx]
  refine CallZ.use0 (c_spec_l01Name _) rfl rfl ?_
  simp [hi, hx]
  repeat refine ⟨by grind, ?_⟩
  refine CallY.use (fun _ => ⟨rfl, c_l00In _ _ _⟩) rfl rfl ?_
  simp [hi, hx]
  repeat refine ⟨by grind, ?_⟩
  refine CallY.use (fun _ => ⟨rfl, c_l00In _ _ _⟩) rfl rfl ?_
  simp [hi, hx]
  repeat refine ⟨by grind, ?_⟩
  refine CallY.use (fun _ => ⟨rfl, c_l00In _ _ _⟩) rfl rfl ?_
  simp [hi, hx]
  repeat refine ⟨by grind, ?_⟩
  refine CallY.use (fun _ => ⟨rfl, c_l00In _ _ _⟩) rfl rfl ?_
  simp
  repeat refine ⟨by grind, ?_⟩
  simp [towerOk]
theorem c_l25OkC (c : Carillon) (tl : List PV) (w : Nat) (rows : List (List PV)) (i0 : Nat) (hr : rows[i0]? = some (c.cells ++ tl)) (hl : c.tune.tones.length ≤ 1048576) : HFn Tryz.prog 52 [.pe (w + 20) rows i0 18] [] (.bool (tuneOk c.tune)) [] := by
  have hi : i0 < rows.length := (List.getElem?_eq_some_iff.1 hr).1
  have hx : rows[i0] = c.cells ++ tl := (List.getElem?_eq_some_iff.1 hr).2
  rw [Carillon.cells] at hr hx
  simp only [List.cons_append, List.nil_append] at hr hx
  generalize ht : c.tune = t at hl ⊢
  rw [ht] at hr hx
  refine hfn_intro hm Tryz.func52 (by kernel_rfl) rfl (by kernel_rfl) rfl ret0_ok ?_
  simp
  refine loop_upto hm t.tones.length (fun i => ⟨[(0, .pe (w + 20) rows i0 18), (3, .int .i64 i)], []⟩) (fun i => ∀ j, j < i → toneAt t.tones j = true) (by kernel_rfl) ?_ (by simp) (fun i hi' hI => ?_) (fun hI => ?_)
  · exact Wk.weak (ρ := []) (φ := []) (by simp)
  · have e1 : IntKind.i64.wrap ((i : Int) - 1) = i - 1 := w64 (by omega) (by omega)
    have hil : i - 1 < t.tones.length := by omega
    have ho := toneAt_eq hi'
    simp [Tone.rows_len, hi, hx, hi']
    refine CallZ.use0 (c_l25Tone t.tones[i] _ i (by simp [Tone.rows, hi'])) rfl rfl ?_
    simp [Tone.rows_len, e1, hi, hx, hi']
    refine ⟨fun a b => ⟨a, b⟩, fun a b => ⟨⟨a, b⟩, by omega, by omega⟩, fun a b => ⟨a, b⟩, CallY.use (res := .bool (toneLt t.tones[i - 1] t.tones[i])) (fun _ => ⟨rfl, c_l25Before t.tones[i - 1] t.tones[i] _ _ (i - 1) i (by simp [Tone.rows, hil]) (by simp [Tone.rows, hi'])⟩) rfl rfl ?_⟩
    simp
    refine ⟨by grind, fun h => ?_, fun h1 h2 => ⟨upto_succ hI ?_, ?_⟩⟩
    · have : toneAt t.tones i = false := by
        rw [ho]
        rcases h with h | ⟨h, h'⟩
        · simp [h]
        · have h4 : ¬ i = 0 := by omega
          simp [h', h4]
      simp [tuneOk, all_range_false hi' this]
    · rw [ho, h1]
      by_cases h4 : i = 0
      · simp [h4]
      · simp [h2 (by omega)]
    · refine Wk.weak (ρ := []) (φ := []) ?_
      simp
      exact w64 (by omega) (by omega)
  · simp [Tone.rows_len, hi, hx]
    have hall : (List.range t.tones.length).all (toneAt t.tones) = true := all_range_true hI
    refine CallZ.use0 (c_spec_l01Name t.name) rfl rfl ?_
    simp [tuneOk, hall, Tone.rows_len, hi, hx]
    have h128 : ((t.tones.length : Int) ≤ 128) ↔ t.tones.length ≤ 128 := by omega
    simp [h128]

set_option maxHeartbeats 4000000 in
theorem c_l31OkC (c : Carillon) (tl : List PV) (w : Nat) (rows : List (List PV)) (i0 : Nat) (hr : rows[i0]? = some (c.cells ++ tl)) (hs : c.small) : HFn Tryz.prog 33 [.pe (w + 20) rows i0 0] [] (.bool (carOk c)) [] := by
  have hi : i0 < rows.length := (List.getElem?_eq_some_iff.1 hr).1
  have hx : rows[i0] = c.cells ++ tl := (List.getElem?_eq_some_iff.1 hr).2
  have kC := c_l23ChamberC c tl w rows i0 hr
  have kT := c_l22TowerC c tl w rows i0 hr
  have kU := c_l25OkC c tl w rows i0 hr hs.tones
  rw [Carillon.cells] at hr hx
  simp only [List.cons_append, List.nil_append] at hr hx
  refine hfn_intro hm Tryz.func33 (by kernel_rfl) rfl (by kernel_rfl) rfl ret0_ok ?_
  simp [hi, hx]
  refine CallZ.use0 (c_l13Ok c.ingots hs.ingots) rfl rfl ?_
  simp [hi, hx]
  repeat refine ⟨by grind, ?_⟩
  refine CallY.use (fun _ => ⟨rfl, c_l14Ok c.melts hs.melts hs.meltI⟩) rfl rfl ?_
  simp [hi, hx]
  repeat refine ⟨by grind, ?_⟩
  refine CallY.use (fun _ => ⟨rfl, c_l18Ok c.bells hs.bells hs.bellS⟩) rfl rfl ?_
  simp [hi, hx]
  repeat refine ⟨by grind, ?_⟩
  refine CallY.use (fun _ => ⟨rfl, c_l31Hung c.hung hs.hung⟩) rfl rfl ?_
  simp
  repeat refine ⟨by grind, ?_⟩
  refine ⟨fun h => ?_, ?_⟩
  · rw [carOk]
    grind
  intro a1 a2 a3 a4
  refine CallZ.use0 (kC) rfl rfl ?_
  simp [hi, hx]
  repeat refine ⟨by grind, ?_⟩
  refine CallY.use (fun _ => ⟨rfl, c_l23Ok c.places hs.places⟩) rfl rfl ?_
  simp [hi, hx]
  repeat refine ⟨by grind, ?_⟩
  refine CallY.use (fun _ => ⟨rfl, c_l23Gap c.gap⟩) rfl rfl ?_
  simp
  repeat refine ⟨by grind, ?_⟩
  refine CallY.use (fun _ => ⟨rfl, kT⟩) rfl rfl ?_
  simp [hi, hx]
  repeat refine ⟨by grind, ?_⟩
  refine CallY.use (fun _ => ⟨rfl, c_spec_ValidFrame c.frame hs.frame hs.beamL⟩) rfl rfl ?_
  simp [hi, hx]
  repeat refine ⟨by grind, ?_⟩
  refine ⟨fun h => ?_, ?_⟩
  · rw [carOk]
    grind
  intro a5 a6 a7 a8 a9 a10
  refine CallZ.use0 (c_l00In _ _ _) rfl rfl ?_
  simp [hi, hx]
  repeat refine ⟨by grind, ?_⟩
  refine CallY.use (fun _ => ⟨rfl, c_l00In _ _ _⟩) rfl rfl ?_
  simp [hi, hx]
  repeat refine ⟨by grind, ?_⟩
  refine CallY.use (fun _ => ⟨rfl, c_l24Ok c.clavier hs.clavier hs.actL⟩) rfl rfl ?_
  simp
  repeat refine ⟨by grind, ?_⟩
  refine CallY.use (fun _ => ⟨rfl, kU⟩) rfl rfl ?_
  simp
  repeat refine ⟨by grind, ?_⟩
  rw [carOk]
  grind

end Go.Proofs.YtcjpfjklhhclmaaGreatDoor
