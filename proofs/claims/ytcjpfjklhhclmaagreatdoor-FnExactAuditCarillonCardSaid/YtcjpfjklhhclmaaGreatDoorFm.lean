/- Contracts: valid carillons. No condition. -/
import Derived.Test.YtcjpfjklhhclmaaGreatDoorFl
namespace Go.Proofs.YtcjpfjklhhclmaaGreatDoor
open Go Go.Ab
set_option maxRecDepth 100000
structure Carillon.small (c : Carillon) : Prop where
 ingots : c.ingots.length ≤ 1048576
 melts : c.melts.length ≤ 1048576
 meltI : ∀ x ∈ c.melts, x.ingots.length ≤ 1048576
 bells : c.bells.length ≤ 1048576
 bellS : ∀ x ∈ c.bells, x.shares.length ≤ 1048576
 hung : c.hung.length ≤ 1048576
 places : c.places.length ≤ 1048576
 frame : c.frame.length ≤ 1048576
 beamL : ∀ x ∈ c.frame, x.loads.length ≤ 1048576
 clavier : c.clavier.length ≤ 1048576
 actL : ∀ x ∈ c.clavier, x.levers.length ≤ 1048576
 tones : c.tune.tones.length ≤ 1048576
theorem Carillon.small_of_sz {c : Carillon} (h : c.sz ≤ 1048576) : c.small := by
 unfold Carillon.sz Ingot.szS Melt.szS Bell.szS Hung.szS Place.szS Beam.szS Action.szS Tune.sz Tone.szS at h
 refine ⟨by omega, by omega, fun x hx => ?_, by omega, fun x hx => ?_, by omega, by omega, by omega, fun x hx => ?_, by omega, fun x hx => ?_, by omega⟩
 · have := qb8 Melt.sz hx
   have e : x.ingots.length ≤ Melt.sz x := by
     unfold Melt.sz qcG
     omega
   omega
 · have := qb8 Bell.sz hx
   have e : x.shares.length ≤ Bell.sz x := by
     unfold Bell.sz Share.szS
     omega
   omega
 · have := qb8 Beam.sz hx
   have e : x.loads.length ≤ Beam.sz x := by
     unfold Beam.sz Load.szS
     omega
   omega
 · have := qb8 Action.sz hx
   have e : x.levers.length ≤ Action.sz x := by
     unfold Action.sz Lever.szS
     omega
   omega
def carOk (c : Carillon) : Bool := qbn c.ingots && qa3 c.melts && qbW c.bells && (qca c.hung && qdM c.chamber && qbu c.places && (decide (0 ≤ c.gap) && decide (c.gap ≤ 5000))) && (qbD c.tower && qcK c.frame && (decide (0 ≤ c.stress) && decide (c.stress ≤ 1000000)) && (decide (0 ≤ c.bending) && decide (c.bending ≤ 1000000))) && qce c.clavier && qbt c.tune
set_option maxHeartbeats 4000000 in
theorem qpA (c : Carillon) (hs : c.small) : HFn Tryz.prog 108 [.agg c.cells] [] (.bool (carOk c)) [] := by
 have kC := qjC c.chamber
 have kT := qjD c.tower
 have kU := qoW c.tune hs.tones
 simp only [Chamber.cells, Tower.cells, Tune.cells] at kC kT kU
 refine qaa hm Tryz.func108 (by kernel_rfl) rfl (by kernel_rfl) rfl qab ?_
 simp [Carillon.cells]
 refine CallZ.use0 (qjF c.ingots hs.ingots) rfl rfl ?_
 simp
 repeat refine ⟨by grind, ?_⟩
 refine CallY.use (fun _ => ⟨rfl, qgS c.melts hs.melts hs.meltI⟩) rfl rfl ?_
 simp
 repeat refine ⟨by grind, ?_⟩
 refine CallY.use (fun _ => ⟨rfl, qjH c.bells hs.bells hs.bellS⟩) rfl rfl ?_
 simp
 repeat refine ⟨by grind, ?_⟩
 refine CallZ.use0 (qjt c.hung hs.hung) rfl rfl ?_
 simp
 repeat refine ⟨by grind, ?_⟩
 refine CallY.use (fun _ => ⟨rfl, kC⟩) rfl rfl ?_
 simp
 repeat refine ⟨by grind, ?_⟩
 refine CallY.use (fun _ => ⟨rfl, qgQ c.places hs.places⟩) rfl rfl ?_
 simp
 repeat refine ⟨by grind, ?_⟩
 refine CallY.use (fun _ => ⟨rfl, qjA c.gap⟩) rfl rfl ?_
 simp
 repeat refine ⟨by grind, ?_⟩
 refine CallZ.use0 (kT) rfl rfl ?_
 simp
 repeat refine ⟨by grind, ?_⟩
 refine CallY.use (fun _ => ⟨rfl, qpr c.frame hs.frame hs.beamL⟩) rfl rfl ?_
 simp
 repeat refine ⟨by grind, ?_⟩
 refine CallY.use (fun _ => ⟨rfl, qah _ _ _⟩) rfl rfl ?_
 simp
 repeat refine ⟨by grind, ?_⟩
 refine CallY.use (fun _ => ⟨rfl, qah _ _ _⟩) rfl rfl ?_
 simp
 repeat refine ⟨by grind, ?_⟩
 refine CallY.use (fun _ => ⟨rfl, qjI c.clavier hs.clavier hs.actL⟩) rfl rfl ?_
 simp
 repeat refine ⟨by grind, ?_⟩
 refine CallY.use (fun _ => ⟨rfl, kU⟩) rfl rfl ?_
 simp
 repeat refine ⟨by grind, ?_⟩
 simp [carOk]
 try grind
theorem qpB (c : Carillon) (tl : List PV) (w : Nat) (rows : List (List PV)) (i0 : Nat) (hr : rows[i0]? = some (c.cells ++ tl)) : HFn Tryz.prog 42 [.pe (w + 20) rows i0 4] [] (.bool (qdM c.chamber)) [] := by
 have hi : i0 < rows.length := (List.getElem?_eq_some_iff.1 hr).1
 have hx : rows[i0] = c.cells ++ tl := (List.getElem?_eq_some_iff.1 hr).2
 rw [Carillon.cells] at hr hx
 simp only [List.cons_append, List.nil_append] at hr hx
 refine qaa hm Tryz.func42 (by kernel_rfl) rfl (by kernel_rfl) rfl qab ?_
 simp [hi, hx]
 refine CallZ.use0 (qaj _ _ _) rfl rfl ?_
 simp [hi, hx]
 repeat refine ⟨by grind, ?_⟩
 refine CallY.use (fun _ => ⟨rfl, qaj _ _ _⟩) rfl rfl ?_
 simp [hi, hx]
 repeat refine ⟨by grind, ?_⟩
 refine CallY.use (fun _ => ⟨rfl, qaj _ _ _⟩) rfl rfl ?_
 simp
 repeat refine ⟨by grind, ?_⟩
 simp [qdM]
theorem qpC (c : Carillon) (tl : List PV) (w : Nat) (rows : List (List PV)) (i0 : Nat) (hr : rows[i0]? = some (c.cells ++ tl)) : HFn Tryz.prog 105 [.pe (w + 20) rows i0 9] [] (.bool (qbD c.tower)) [] := by
 have hi : i0 < rows.length := (List.getElem?_eq_some_iff.1 hr).1
 have hx : rows[i0] = c.cells ++ tl := (List.getElem?_eq_some_iff.1 hr).2
 rw [Carillon.cells] at hr hx
 simp only [List.cons_append, List.nil_append] at hr hx
 refine qaa hm Tryz.func105 (by kernel_rfl) rfl (by kernel_rfl) rfl qab ?_
 simp [hi, hx]
 refine CallZ.use0 (qbd _) rfl rfl ?_
 simp [hi, hx]
 repeat refine ⟨by grind, ?_⟩
 refine CallY.use (fun _ => ⟨rfl, qaj _ _ _⟩) rfl rfl ?_
 simp [hi, hx]
 repeat refine ⟨by grind, ?_⟩
 refine CallY.use (fun _ => ⟨rfl, qaj _ _ _⟩) rfl rfl ?_
 simp [hi, hx]
 repeat refine ⟨by grind, ?_⟩
 refine CallY.use (fun _ => ⟨rfl, qaj _ _ _⟩) rfl rfl ?_
 simp [hi, hx]
 repeat refine ⟨by grind, ?_⟩
 refine CallY.use (fun _ => ⟨rfl, qaj _ _ _⟩) rfl rfl ?_
 simp
 repeat refine ⟨by grind, ?_⟩
 simp [qbD]
theorem qpD (c : Carillon) (tl : List PV) (w : Nat) (rows : List (List PV)) (i0 : Nat) (hr : rows[i0]? = some (c.cells ++ tl)) (hl : c.tune.tones.length ≤ 1048576) : HFn Tryz.prog 52 [.pe (w + 20) rows i0 18] [] (.bool (qbt c.tune)) [] := by
 have hi : i0 < rows.length := (List.getElem?_eq_some_iff.1 hr).1
 have hx : rows[i0] = c.cells ++ tl := (List.getElem?_eq_some_iff.1 hr).2
 rw [Carillon.cells] at hr hx
 simp only [List.cons_append, List.nil_append] at hr hx
 generalize ht : c.tune = t at hl ⊢
 rw [ht] at hr hx
 refine qaa hm Tryz.func52 (by kernel_rfl) rfl (by kernel_rfl) rfl qab ?_
 simp
 refine qac hm t.tones.length (fun i => ⟨[(0, .pe (w + 20) rows i0 18), (3, .int .i64 i)], []⟩) (fun i => ∀ j, j < i → qcb t.tones j = true) (by kernel_rfl) ?_ (by simp) (fun i hi' hI => ?_) (fun hI => ?_)
 · exact Wk.weak (ρ := []) (φ := []) (by simp)
 · have e1 : IntKind.i64.wrap ((i : Int) - 1) = i - 1 := w64 (by omega) (by omega)
   have hil : i - 1 < t.tones.length := by omega
   have ho := qfN hi'
   simp [Tone.rows_len, hi, hx, hi']
   refine CallZ.use0 (qjy t.tones[i] _ i (by simp [Tone.rows, hi'])) rfl rfl ?_
   simp [Tone.rows_len, e1, hi, hx, hi']
   refine ⟨fun a b => ⟨a, b⟩, fun a b => ⟨⟨a, b⟩, by omega, by omega⟩, fun a b => ⟨a, b⟩, CallY.use (res := .bool (qdt t.tones[i - 1] t.tones[i])) (fun _ => ⟨rfl, qjz t.tones[i - 1] t.tones[i] _ _ (i - 1) i (by simp [Tone.rows, hil]) (by simp [Tone.rows, hi'])⟩) rfl rfl ?_⟩
   simp
   refine ⟨by grind, fun h => ?_, fun h1 h2 => ⟨qaK hI ?_, ?_⟩⟩
   · have : qcb t.tones i = false := by
       rw [ho]
       rcases h with h | ⟨h, h'⟩
       · simp [h]
       · have h4 : ¬ i = 0 := by omega
         simp [h', h4]
     simp [qbt, qaF hi' this]
   · rw [ho, h1]
     by_cases h4 : i = 0
     · simp [h4]
     · simp [h2 (by omega)]
   · refine Wk.weak (ρ := []) (φ := []) ?_
     simp
     exact w64 (by omega) (by omega)
 · simp [Tone.rows_len, hi, hx]
   have hall : (List.range t.tones.length).all (qcb t.tones) = true := qaJ hI
   refine CallZ.use0 (qbd t.name) rfl rfl ?_
   simp [qbt, hall, Tone.rows_len, hi, hx]
   have h128 : ((t.tones.length : Int) ≤ 128) ↔ t.tones.length ≤ 128 := by omega
   simp [h128]
set_option maxHeartbeats 4000000 in
theorem qpE (c : Carillon) (tl : List PV) (w : Nat) (rows : List (List PV)) (i0 : Nat) (hr : rows[i0]? = some (c.cells ++ tl)) (hs : c.small) : HFn Tryz.prog 33 [.pe (w + 20) rows i0 0] [] (.bool (carOk c)) [] := by
 have hi : i0 < rows.length := (List.getElem?_eq_some_iff.1 hr).1
 have hx : rows[i0] = c.cells ++ tl := (List.getElem?_eq_some_iff.1 hr).2
 have kC := qpB c tl w rows i0 hr
 have kT := qpC c tl w rows i0 hr
 have kU := qpD c tl w rows i0 hr hs.tones
 rw [Carillon.cells] at hr hx
 simp only [List.cons_append, List.nil_append] at hr hx
 refine qaa hm Tryz.func33 (by kernel_rfl) rfl (by kernel_rfl) rfl qab ?_
 simp [hi, hx]
 refine CallZ.use0 (qjG c.ingots hs.ingots) rfl rfl ?_
 simp [hi, hx]
 repeat refine ⟨by grind, ?_⟩
 refine CallY.use (fun _ => ⟨rfl, qeJ c.melts hs.melts hs.meltI⟩) rfl rfl ?_
 simp [hi, hx]
 repeat refine ⟨by grind, ?_⟩
 refine CallY.use (fun _ => ⟨rfl, qgR c.bells hs.bells hs.bellS⟩) rfl rfl ?_
 simp [hi, hx]
 repeat refine ⟨by grind, ?_⟩
 refine CallY.use (fun _ => ⟨rfl, qoL c.hung hs.hung⟩) rfl rfl ?_
 simp
 repeat refine ⟨by grind, ?_⟩
 refine ⟨fun h => ?_, ?_⟩
 · rw [carOk]
   grind
 intro a1 a2 a3 a4
 refine CallZ.use0 (kC) rfl rfl ?_
 simp [hi, hx]
 repeat refine ⟨by grind, ?_⟩
 refine CallY.use (fun _ => ⟨rfl, qpq c.places hs.places⟩) rfl rfl ?_
 simp [hi, hx]
 repeat refine ⟨by grind, ?_⟩
 refine CallY.use (fun _ => ⟨rfl, qoZ c.gap⟩) rfl rfl ?_
 simp
 repeat refine ⟨by grind, ?_⟩
 refine CallY.use (fun _ => ⟨rfl, kT⟩) rfl rfl ?_
 simp [hi, hx]
 repeat refine ⟨by grind, ?_⟩
 refine CallY.use (fun _ => ⟨rfl, qps c.frame hs.frame hs.beamL⟩) rfl rfl ?_
 simp [hi, hx]
 repeat refine ⟨by grind, ?_⟩
 refine ⟨fun h => ?_, ?_⟩
 · rw [carOk]
   grind
 intro a5 a6 a7 a8 a9 a10
 refine CallZ.use0 (qaj _ _ _) rfl rfl ?_
 simp [hi, hx]
 repeat refine ⟨by grind, ?_⟩
 refine CallY.use (fun _ => ⟨rfl, qaj _ _ _⟩) rfl rfl ?_
 simp [hi, hx]
 repeat refine ⟨by grind, ?_⟩
 refine CallY.use (fun _ => ⟨rfl, qjJ c.clavier hs.clavier hs.actL⟩) rfl rfl ?_
 simp
 repeat refine ⟨by grind, ?_⟩
 refine CallY.use (fun _ => ⟨rfl, kU⟩) rfl rfl ?_
 simp
 repeat refine ⟨by grind, ?_⟩
 rw [carOk]
 grind
end Go.Proofs.YtcjpfjklhhclmaaGreatDoor
