/- Contracts: how many hammers a tune needs. No condition.; Contracts: the drum of a tune. No condition. -/
import Derived.Test.YtmdablalfmcgnaaGreatVe
import Derived.Test.YtmdablalfmcgnaaGreatCk
import Derived.Test.YtmdablalfmcgnaaGreatVd
-- from Vf
namespace Go.Proofs.YtmdablalfmcgnaaGreat
open Go Go.Ab
set_option maxRecDepth 100000

theorem c_impl_HammersNeeded (t : Tune) (per rest : Int) (hl : t.tones.length ≤ 1048576) :
    HFn Tryz.prog 7 [.agg t.cells, .int .i64 per, .int .i64 rest] [] (.tup [.int .i64 (hamsOf t per rest), .int .i64 (askD t per rest)]) [] := by
  refine hfn_intro hm Tryz.func7 (by kernel_rfl) rfl (by kernel_rfl) rfl ret0_ok ?_
  simp [Tune.cells]
  refine CallZ.use0 (c_drummed t per rest hl) rfl rfl ?_
  simp
  refine ⟨fun h => by simp [hamsOf, h], fun h => ?_⟩
  obtain ⟨h1, h2, h3, h4, h5⟩ := askD_ok h
  have hst := tune_steps h1 h2
  have hl128 := (tune_ok h1).1
  have hnl := notesL_le t
  refine CallZ.use (c_notesOf t _ c_HammersNeeded1 hl) rfl (.inr ⟨flat_intRows _, trivial⟩) rfl rfl ?_
  simp
  generalize hL : notesL t = L at hnl
  refine loop_upto hm L.length (fun i => ⟨[(1, .int .i64 per), (2, .int .i64 rest), (3, .pb 0 0), (9, .int .i64 (hamsN t.tones per rest (L.take i))), (22, .sl 1 (intRows L)), (23, .int .i64 L.length), (24, .int .i64 i)], [some (.box [.str t.name, .sl 3 (Tone.rows t.tones)])]⟩) (fun _ => True) (by kernel_rfl) ?_ trivial (fun i hi _ => ?_) (fun _ => ?_)
  · refine Wk.weak (ρ := [0]) (φ := [1]) ?_
    simp [hamsN, intRows_len]
  · have hget : (intRows L)[i]'(by rw [intRows_len]; exact hi) = [.int .i64 L[i]] := by simp [intRows]
    have w1 : IntKind.i64.wrap ((i : Int) + 1) = (i : Int) + 1 := w64 (by omega) (by omega)
    have hs := hamsN_succ t.tones per rest L hi
    have b1 := hams_le t.tones per rest L i (by omega)
    have b2 := ham_le L[i] per rest t.tones
    have b3 : i * t.tones.length ≤ 128 * 128 := Nat.mul_le_mul (by omega) hl128
    have w2 : IntKind.i64.wrap ((hamsN t.tones per rest (L.take i) : Int) + ((hamL L[i] per rest t.tones).1.length : Int)) = (hamsN t.tones per rest (L.take i) : Int) + ((hamL L[i] per rest t.tones).1.length : Int) := w64 (by omega) (by omega)
    simp [hi, intRows_len, hget]
    refine CallZ.use (c_hammersFor t L[i] per rest hl h2 (by unfold Small; omega) (fun x hx => by have := hst x hx; unfold Small; omega)) rfl (.inr ⟨flat_intRows _, trivial⟩) rfl rfl ?_
    simp
    refine Wk.weak (ρ := [0]) (φ := []) ?_
    simp [w1, w2, hs]
  · simp [hamsOf, h, hL]

end Go.Proofs.YtmdablalfmcgnaaGreat
-- from Vg
namespace Go.Proofs.YtmdablalfmcgnaaGreat
open Go Go.Ab
set_option maxRecDepth 100000

theorem ham_pre (note per rest : Int) (l : List Tone) (i : Nat) : ∃ R, (hamL note per rest l).2 = (hamL note per rest (l.take i)).2 ++ R := by
  have key : ∀ (m : List Tone) (a : List Int × List Int), ∃ R, (m.foldl (fun a x => if x.note = note then (hamS rest a.1 (x.start.tdiv per), a.2 ++ [(hamK rest a.1 (x.start.tdiv per) : Int)]) else a) a).2 = a.2 ++ R := fun m => by
    induction m with
    | nil => exact fun a => ⟨[], by simp⟩
    | cons x m ih =>
      intro a
      rw [List.foldl_cons]
      by_cases h : x.note = note
      · rw [if_pos h]
        obtain ⟨R, hR⟩ := ih (hamS rest a.1 (x.start.tdiv per), a.2 ++ [(hamK rest a.1 (x.start.tdiv per) : Int)])
        exact ⟨_, by rw [hR, List.append_assoc]⟩
      · rw [if_neg h]
        exact ih a
  obtain ⟨R, hR⟩ := key (l.drop i) (hamL note per rest (l.take i))
  refine ⟨R, ?_⟩
  rw [← hR]
  unfold hamL
  rw [← List.foldl_append, List.take_append_drop]
/-- What is left of the chosen hammers behind the first i tones. -/
def leftC (note per rest : Int) (l : List Tone) (i : Nat) : List Int := (hamL note per rest l).2.drop (hamL note per rest (l.take i)).2.length
theorem leftC_zero (note per rest : Int) (l : List Tone) : leftC note per rest l 0 = (hamL note per rest l).2 := by simp [leftC, hamL]
theorem leftC_hit {note per rest : Int} {l : List Tone} {i : Nat} (hi : i < l.length) (h : l[i].note = note) : leftC note per rest l i = (hamK rest (hamL note per rest (l.take i)).1 (l[i].start.tdiv per) : Int) :: leftC note per rest l (i + 1) := by
  obtain ⟨R, hR⟩ := ham_pre note per rest l (i + 1)
  have hs := hamL_succ note per rest l hi
  rw [if_pos h] at hs
  unfold leftC
  rw [hR, hs]
  simp only [List.append_assoc, List.drop_left]
  simp
theorem leftC_miss {note per rest : Int} {l : List Tone} {i : Nat} (hi : i < l.length) (h : l[i].note ≠ note) : leftC note per rest l (i + 1) = leftC note per rest l i := by
  have hs := hamL_succ note per rest l hi
  rw [if_neg h] at hs
  unfold leftC
  rw [hs]

set_option maxHeartbeats 8000000 in
theorem c_impl_DrumOf (t : Tune) (per rest : Int) (hl : t.tones.length ≤ 1048576) :
    HFn Tryz.prog 6 [.agg t.cells, .int .i64 per, .int .i64 rest] [] (.tup [(drumOf t per rest).res, .int .i64 (drumCode t per rest)]) (drumOf t per rest).objs := by
  refine hfn_intro hm Tryz.func6 (by kernel_rfl) rfl (by kernel_rfl) rfl (fun _ _ h => h) ?_
  simp [Tune.cells]
  refine CallZ.use0 (c_drummed t per rest hl) rfl rfl ?_
  simp
  refine ⟨fun h => ?_, fun h => ?_⟩
  · have hb : drumCode t per rest = askD t per rest := by unfold drumCode; rw [if_neg h]
    have hD : drumOf t per rest = ⟨0, 0, [], []⟩ := by unfold drumOf; rw [hb, if_neg h]
    rw [hD, hb]
    exact weak_nodrum
  obtain ⟨h1, h2, h3, h4, h5⟩ := askD_ok h
  have hst := tune_steps h1 h2
  have hl128 := (tune_ok h1).1
  have hnl := notesL_le t
  have hall : drumS t per rest = overD t.tones per rest (notesL t) := rfl
  refine CallZ.use (c_notesOf t _ c_DrumOf1 hl) rfl (.inr ⟨flat_intRows _, trivial⟩) rfl rfl ?_
  simp
  have hcode : drumCode t per rest = if (drumS t per rest).steps ≤ 4096 ∧ (drumS t per rest).notes.length ≤ 32 then 0 else 5 := by unfold drumCode; rw [if_pos h]
  have hdrum : drumOf t per rest = if (drumS t per rest).steps ≤ 4096 ∧ (drumS t per rest).notes.length ≤ 32 then ⟨(drumS t per rest).steps, rest, (drumS t per rest).notes, sortP (drumS t per rest).pins⟩ else ⟨0, 0, [], []⟩ := by
    unfold drumOf
    rw [hcode]
    split
    · rw [if_pos rfl]
    · rw [if_neg (by decide)]
  rw [hcode, hdrum, hall]
  generalize notesL t = L at hnl
  have hov := fun j hj => over_ok t.tones per rest L hst ⟨h4, h5⟩ j hj
  refine loop_upto hm L.length (fun j => ⟨[(1, .int .i64 per), (2, .int .i64 rest), (3, .pb 0 0), (6, .pb 1 0), (9, .pb 2 0), (30, .sl 1 (intRows L)), (31, .int .i64 L.length), (32, .int .i64 j)], [some (.box [.str t.name, .sl 3 (Tone.rows t.tones)]), some (.box [.int .i64 0, .int .i64 0, .nils, .nils]), some (.box [.int .i64 (overD t.tones per rest (L.take j)).steps, .int .i64 rest, .sf 3 1, .sf 4 2]), some (.arr 1 (intRows (overD t.tones per rest (L.take j)).notes)), some (.arr 2 (Pin.rows (overD t.tones per rest (L.take j)).pins))]⟩) (fun _ => True) (by kernel_rfl) ?_ trivial (fun j hj _ => ?_) (fun _ => ?_)
  · refine (weak_nilB 2 2 1 rfl rfl).trans ((weak_nilB 2 3 2 rfl rfl).trans (Wk.weak (ρ := [0, 1, 2, 4, 5]) (φ := [3]) ?_))
    simp [overD, Pin.rows, intRows]
  · have hget : (intRows L)[j]'(by rw [intRows_len]; exact hj) = [.int .i64 L[j]] := by simp [intRows]
    have w1 : IntKind.i64.wrap ((j : Int) + 1) = (j : Int) + 1 := w64 (by omega) (by omega)
    have hs := over_succ t.tones per rest L hj
    obtain ⟨o1, o2, o3⟩ := hov j (by omega)
    have b3 : j * t.tones.length ≤ 128 * 128 := Nat.mul_le_mul (by omega) hl128
    generalize overD t.tones per rest (L.take j) = a at hs o1 o2 o3 ⊢
    have hpo := fun i hi => partD_ok t.tones per rest a L[j] hst ⟨h4, h5⟩ i hi
    generalize hn : L[j] = n at hs hpo hget
    simp [hj, intRows_len, hget]
    refine CallZ.use (c_hammersFor t n per rest hl h2 (by unfold Small; omega) (fun x hx => by have := hst x hx; unfold Small; omega)) rfl (.inr ⟨flat_intRows _, trivial⟩) rfl rfl ?_
    simp
    refine CallZ.use0 (c_sizeInt _) rfl rfl ?_
    simp
    refine loop_upto hm t.tones.length (fun i => ⟨[(1, .int .i64 per), (2, .int .i64 rest), (3, .pb 0 0), (6, .pb 1 0), (9, .pb 2 0), (11, .int .i64 n), (12, .int .i64 (hamL n per rest t.tones).1.length), (13, .sl 1 (intRows (leftC n per rest t.tones i))), (14, .int .i64 a.notes.length), (30, .sl 1 (intRows L)), (31, .int .i64 L.length), (32, .int .i64 j), (48, .sl 3 (Tone.rows t.tones)), (49, .int .i64 t.tones.length), (50, .int .i64 i)], [some (.box [.str t.name, .sl 3 (Tone.rows t.tones)]), some (.box [.int .i64 0, .int .i64 0, .nils, .nils]), some (.box [.int .i64 (partD t.tones per rest a n i).1.steps, .int .i64 rest, .sf 3 1, .sf 4 2]), some (.arr 1 (intRows a.notes)), some (.arr 2 (Pin.rows (partD t.tones per rest a n i).1.pins))]⟩) (fun _ => True) (by kernel_rfl) ?_ trivial (fun i hi _ => ?_) (fun _ => ?_)
    · refine Wk.weak (ρ := [0, 1, 2, 3, 4]) (φ := [5]) ?_
      simp [partD_zero, leftC_zero, Tone.rows_len]
    · have w2 : IntKind.i64.wrap ((i : Int) + 1) = (i : Int) + 1 := w64 (by omega) (by omega)
      have hps := partD_succ per rest a n hi
      obtain ⟨q1, q2, q3, q4, q5, q6⟩ := hpo i (by omega)
      have hst' := hst t.tones[i] (List.getElem_mem hi)
      have wst : IntKind.i64.wrap (t.tones[i].start.tdiv per) = t.tones[i].start.tdiv per := w64 (by omega) (by omega)
      have hhit := leftC_hit (note := n) (per := per) (rest := rest) hi
      have hmiss := leftC_miss (note := n) (per := per) (rest := rest) hi
      rw [← q1] at hhit
      generalize partD t.tones per rest a n i = p at hps q2 q3 q4 q5 q6 hhit ⊢
      rw [hps]
      unfold oneD
      obtain ⟨⟨ps, pn, pp⟩, pl⟩ := p
      simp only at q2 q3 q4 q5 q6 hhit ⊢
      by_cases hx : t.tones[i].note = n
      · have hhit := hhit hx
        rw [hhit, if_pos hx]
        generalize hstt : t.tones[i].start.tdiv per = st at hst' wst ⊢
        have hk := hamK_le rest pl st
        generalize hamK rest pl st = k at hk ⊢
        have w3 : IntKind.i64.wrap (st + rest) = st + rest := w64 (by omega) (by omega)
        have w4 : IntKind.i64.wrap ((a.notes.length : Int) + k) = (a.notes.length : Int) + k := w64 (by omega) (by omega)
        have hpl : (Pin.rows pp).length ≤ 1048576 := by rw [Pin.rows_len]; omega
        generalize leftC n per rest t.tones (i + 1) = R
        simp (maxSteps := 2000000) [hi, Tone.rows_len, Tone.row_get, hx, hstt, wst, intRows, w3, w4]
        refine ⟨by omega, by simp [Go.Ab.rowsOne], rfl, by omega, by omega, Wk.weak (ρ := [0, 1, 2, 3, 4]) (φ := []) ?_⟩
        simp (maxSteps := 2000000) [w2]
        simp [Pin.rows, Pin.cells]
        exact List.take_of_length_le (by simp)
      · rw [if_neg hx, hmiss hx]
        simp (maxSteps := 2000000) [hi, Tone.rows_len, Tone.row_get, hx]
        refine Wk.weak (ρ := [0, 1, 2, 3, 4]) (φ := []) ?_
        simp [w2]
    · obtain ⟨q1, q2, q3, q4, q5, q6⟩ := hpo t.tones.length (by omega)
      rw [List.take_length] at q1
      simp
      have hnd : noteD t.tones per rest a n = (partD t.tones per rest a n t.tones.length).1 := rfl
      rw [hs, hnd, ← q1]
      generalize partD t.tones per rest a n t.tones.length = p at q2 q3 q4 q5 q6 ⊢
      refine loop_upto hm p.2.length (fun g => ⟨[(1, .int .i64 per), (2, .int .i64 rest), (3, .pb 0 0), (6, .pb 1 0), (9, .pb 2 0), (11, .int .i64 n), (30, .sl 1 (intRows L)), (31, .int .i64 L.length), (32, .int .i64 j), (84, .int .i64 p.2.length), (85, .int .i64 g)], [some (.box [.str t.name, .sl 3 (Tone.rows t.tones)]), some (.box [.int .i64 0, .int .i64 0, .nils, .nils]), some (.box [.int .i64 p.1.steps, .int .i64 rest, .sf 3 1, .sf 4 2]), some (.arr 1 (intRows (a.notes ++ List.replicate g n))), some (.arr 2 (Pin.rows p.1.pins))]⟩) (fun _ => True) (by kernel_rfl) ?_ trivial (fun g hg _ => ?_) (fun _ => ?_)
      · refine Wk.weak (ρ := [0, 1, 2, 3, 4]) (φ := []) ?_
        simp
      · have w3 : IntKind.i64.wrap ((g : Int) + 1) = (g : Int) + 1 := w64 (by omega) (by omega)
        have hrl : (intRows (a.notes ++ List.replicate g n)).length = a.notes.length + g := by simp [intRows_len]
        have hrs : intRows (a.notes ++ List.replicate (g + 1) n) = intRows (a.notes ++ List.replicate g n) ++ [[.int .i64 n]] := by
          rw [List.replicate_succ', ← List.append_assoc]
          simp [intRows]
        rw [hrs]
        generalize intRows (a.notes ++ List.replicate g n) = X at hrl ⊢
        simp (maxSteps := 2000000) [hg, hrl]
        refine ⟨by simp [Go.Ab.rowsOne], by omega, by omega, Wk.weak (ρ := [0, 1, 2, 3, 4]) (φ := []) ?_⟩
        simp (maxSteps := 2000000) [w3]
      · simp
        refine Wk.weak (ρ := [0, 1, 2, 3, 4]) (φ := []) ?_
        simp [w1, q2]
  · rw [List.take_length]
    obtain ⟨o1, o2, o3⟩ := hov L.length (by omega)
    rw [List.take_length] at o1 o2 o3
    have b3 : L.length * t.tones.length ≤ 128 * 128 := Nat.mul_le_mul (by omega) hl128
    generalize overD t.tones per rest L = D at o1 o2 o3 ⊢
    simp [intRows_len]
    refine ⟨fun hbad => ?_, fun g1 g2 => ?_⟩
    · have hn : ¬ (D.steps ≤ 4096 ∧ D.notes.length ≤ 32) := by omega
      simp only [if_neg hn]
      exact weak_nodrum
    · have hy : D.steps ≤ 4096 ∧ D.notes.length ≤ 32 := by omega
      simp only [if_pos hy]
      refine CallZ.useK 4 (c_SortFuncPin D.pins (by omega)) rfl (by simp) rfl (by simp) rfl rfl ?_
      simp
      refine Wk.weak (ρ := [3, 4]) (φ := []) ?_
      simp
end Go.Proofs.YtmdablalfmcgnaaGreat
