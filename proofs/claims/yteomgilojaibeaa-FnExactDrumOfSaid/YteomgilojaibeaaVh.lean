/- Contracts: the reference's drum of a tune. No condition. -/
import Derived.Test.YteomgilojaibeaaVd
import Derived.Test.YteomgilojaibeaaCk
namespace Go.Proofs.Yteomgilojaibeaa
open Go Go.Ab
set_option maxRecDepth 100000

set_option maxHeartbeats 8000000 in
theorem c_spec_DrumOf (t : Tune) (per rest : Int) (hl : t.tones.length ≤ 1048576) :
    HFn Try.prog 11 [.agg t.cells, .int .i64 per, .int .i64 rest] [] (.tup [(drumOf t per rest).res, .int .i64 (drumCode t per rest)]) (drumOf t per rest).objs := by
  refine hfn_intro hm Try.func11 (by kernel_rfl) rfl (by kernel_rfl) rfl (fun _ _ h => h) ?_
  simp [Tune.cells]
  refine CallZ.use0 (c_l28Ask t per rest hl) rfl rfl ?_
  simp
  refine ⟨fun h => ?_, fun h => ?_⟩
  · have hb : drumCode t per rest = askD t per rest := by unfold drumCode; rw [if_neg h]
    have hD : drumOf t per rest = ⟨0, 0, [], []⟩ := by unfold drumOf; rw [hb, if_neg h]
    rw [hD, hb]
    exact weak_nodrum
  obtain ⟨h1, h2, h3, h4, h5⟩ := askD_ok h
  have hst := tune_steps h1 h2
  have hl128 := (tune_ok h1).1
  have hcode : drumCode t per rest = if (drumS t per rest).steps ≤ 4096 ∧ (drumS t per rest).notes.length ≤ 32 then 0 else 5 := by unfold drumCode; rw [if_pos h]
  have hdrum : drumOf t per rest = if (drumS t per rest).steps ≤ 4096 ∧ (drumS t per rest).notes.length ≤ 32 then ⟨(drumS t per rest).steps, rest, (drumS t per rest).notes, sortP (drumS t per rest).pins⟩ else ⟨0, 0, [], []⟩ := by
    unfold drumOf
    rw [hcode]
    split
    · rw [if_pos rfl]
    · rw [if_neg (by decide)]
  rw [hcode, hdrum, ← all_notes h1]
  have hLl : ((List.range 128).map Int.ofNat).length = 128 := by simp
  have hLg : ∀ n (hn : n < ((List.range 128).map Int.ofNat).length), ((List.range 128).map Int.ofNat)[n] = (n : Int) := fun n hn => by simp
  generalize (List.range 128).map Int.ofNat = L at hLl hLg
  have hov := fun j hj => over_ok t.tones per rest L hst ⟨h4, h5⟩ j hj
  refine loop_upto hm 128 (fun j => ⟨[(1, .int .i64 per), (2, .int .i64 rest), (3, .pb 0 0), (6, .pb 1 0), (9, .pb 2 0), (10, .int .i64 j)], [some (.box [.str t.name, .sl 3 (Tone.rows t.tones)]), some (.box [.int .i64 0, .int .i64 0, .nils, .nils]), some (.box [.int .i64 (overD t.tones per rest (L.take j)).steps, .int .i64 rest, .sf 3 1, .sf 4 2]), some (.arr 1 (intRows (overD t.tones per rest (L.take j)).notes)), some (.arr 2 (Pin.rows ((overD t.tones per rest (L.take j)).pins.foldl putL [])))]⟩) (fun _ => True) (by kernel_rfl) ?_ trivial (fun j hj _ => ?_) (fun _ => ?_)
  · refine (weak_nilB 2 2 1 rfl rfl).trans ((weak_nilB 2 3 2 rfl rfl).trans (Wk.weak (ρ := [0, 1, 2, 3, 4]) (φ := []) ?_))
    simp [overD, Pin.rows, intRows]
  · have hjL : j < L.length := by omega
    have hj1 : (j : Int) ≤ 127 := by omega
    have w1 : IntKind.i64.wrap ((j : Int) + 1) = (j : Int) + 1 := w64 (by omega) (by omega)
    have hs := over_succ t.tones per rest L hjL
    rw [hLg j hjL] at hs
    obtain ⟨o1, o2, o3⟩ := hov j (by omega)
    have b3 : j * t.tones.length ≤ 128 * 128 := Nat.mul_le_mul (by omega) hl128
    generalize overD t.tones per rest (L.take j) = a at hs o1 o2 o3 ⊢
    have hpo := fun i hi => partD_ok t.tones per rest a j hst ⟨h4, h5⟩ i hi
    rw [hs]
    simp [hj1, intRows_len]
    refine loop_upto hm t.tones.length (fun i => ⟨[(1, .int .i64 per), (2, .int .i64 rest), (3, .pb 0 0), (6, .pb 1 0), (9, .pb 2 0), (10, .int .i64 j), (11, .sf 5 1), (12, .int .i64 a.notes.length), (13, .int .i64 i)], [some (.box [.str t.name, .sl 3 (Tone.rows t.tones)]), some (.box [.int .i64 0, .int .i64 0, .nils, .nils]), some (.box [.int .i64 (partD t.tones per rest a j i).1.steps, .int .i64 rest, .sf 3 1, .sf 4 2]), some (.arr 1 (intRows (partD t.tones per rest a j i).1.notes)), some (.arr 2 (Pin.rows ((partD t.tones per rest a j i).1.pins.foldl putL []))), some (.arr 1 (intRows (partD t.tones per rest a j i).2))]⟩) (fun _ => True) (by kernel_rfl) ?_ trivial (fun i hi _ => ?_) (fun _ => ?_)
    · refine (weak_nil (t := 11) (z := 1) rfl).trans (Wk.weak (ρ := [0, 1, 2, 3, 4, 5]) (φ := []) ?_)
      simp [partD_zero, intRows]
    · have w2 : IntKind.i64.wrap ((i : Int) + 1) = (i : Int) + 1 := w64 (by omega) (by omega)
      have hps := partD_succ per rest a j hi
      obtain ⟨q1, q2, q3, q4, q5, q6⟩ := hpo i (by omega)
      have hst' := hst t.tones[i] (List.getElem_mem hi)
      have wst : IntKind.i64.wrap (t.tones[i].start.tdiv per) = t.tones[i].start.tdiv per := w64 (by omega) (by omega)
      generalize partD t.tones per rest a j i = p at hps q2 q3 q4 q5 q6 ⊢
      rw [hps]
      unfold oneD
      obtain ⟨⟨ps, pn, pp⟩, pl⟩ := p
      simp only at q2 q3 q4 q5 q6 ⊢
      by_cases hx : t.tones[i].note = j
      · rw [if_pos hx]
        generalize hstt : t.tones[i].start.tdiv per = st at hst' wst ⊢
        have hk := hamK_le rest pl st
        have hno : ∀ h (hh : h < pl.length), h < hamK rest pl st → st - pl[h] < rest := fun h hh hlt => by
          have := List.not_of_lt_findIdx (p := freeAt rest st) (xs := pl) (i := h) hlt
          unfold freeAt at this
          simp at this
          omega
        have hyes : ∀ hh : hamK rest pl st < pl.length, ¬ (st - pl[hamK rest pl st] < rest) := fun hh => by
          have : freeAt rest st pl[hamK rest pl st] = true := List.findIdx_getElem (w := hh)
          unfold freeAt at this
          simp at this
          omega
        have hS : hamS rest pl st = if hamK rest pl st < pl.length then pl.set (hamK rest pl st) st else pl ++ [st] := rfl
        rw [hS]
        generalize hamK rest pl st = k at hk hno hyes ⊢
        have w3 : IntKind.i64.wrap (st + rest) = st + rest := w64 (by omega) (by omega)
        have w4 : IntKind.i64.wrap ((a.notes.length : Int) + k) = (a.notes.length : Int) + k := w64 (by omega) (by omega)
        have hsub : ∀ h (hh : h < pl.length), IntKind.i64.wrap (st - pl[h]) = st - pl[h] := fun h hh => by
          have := q5 _ (List.getElem_mem hh)
          unfold Small at this
          exact w64 (by omega) (by omega)
        simp (maxSteps := 2000000) [hi, Tone.rows_len, Tone.row_get, hx, hstt, wst, w3]
        refine ⟨by omega, CallZ.use0 (c_l00Max _ _) rfl rfl ?_⟩
        have hPP : (List.foldl putL [] pp).length = pp.length := by
          have := (puts_perm pp []).length_eq
          simpa using this
        have hput := c_l28Put (List.foldl putL [] pp) ⟨st, (a.notes.length : Int) + k⟩ (by omega)
        rw [Pin.cells] at hput
        generalize List.foldl putL [] pp = PP at hPP hput ⊢
        simp (maxSteps := 2000000)
        refine loop_upto hm k (fun h => ⟨[(1, .int .i64 per), (2, .int .i64 rest), (3, .pb 0 0), (6, .pb 1 0), (9, .pb 2 0), (10, .int .i64 j), (11, .sf 5 1), (12, .int .i64 a.notes.length), (13, .int .i64 i), (14, .int .i64 st), (15, .int .i64 h)], [some (.box [.str t.name, .sl 3 (Tone.rows t.tones)]), some (.box [.int .i64 0, .int .i64 0, .nils, .nils]), some (.box [.int .i64 (max ps (st + rest)), .int .i64 rest, .sf 3 1, .sf 4 2]), some (.arr 1 (intRows pn)), some (.arr 2 (Pin.rows PP)), some (.arr 1 (intRows pl))]⟩) (fun _ => True) (by kernel_rfl) ?_ trivial (fun h hlt _ => ?_) (fun _ => ?_)
        · refine Wk.weak (ρ := [0, 1, 2, 3, 4, 5]) (φ := []) ?_
          simp
        · have hh : h < pl.length := by omega
          have g1 := hno h hh hlt
          have g2 := hsub h hh
          have w5 : IntKind.i64.wrap ((h : Int) + 1) = (h : Int) + 1 := w64 (by omega) (by omega)
          have hget : (intRows pl)[h]'(by rw [intRows_len]; exact hh) = [.int .i64 pl[h]] := by simp [intRows]
          simp (maxSteps := 2000000) [hh, intRows_len, hget, g1, g2]
          refine Wk.weak (ρ := [0, 1, 2, 3, 4, 5]) (φ := []) ?_
          simp [w5]
        · by_cases hkl : k < pl.length
          · have g1 := hyes hkl
            have g2 := hsub k hkl
            have hget : (intRows pl)[k]'(by rw [intRows_len]; exact hkl) = [.int .i64 pl[k]] := by simp [intRows]
            have hset : (intRows pl).set k [PV.int .i64 st] = intRows (pl.set k st) := by unfold intRows; rw [List.map_set]
            have hne : ¬ (k : Int) = pl.length := by omega
            rw [if_pos hkl, if_pos hkl]
            simp (maxSteps := 2000000) [hkl, intRows_len, hget, g1, g2, hne, w4]
            refine CallZ.use hput rfl (.inr ⟨Pin.flat _, trivial⟩) rfl rfl ?_
            simp (maxSteps := 2000000)
            refine Wk.weak (ρ := [0, 1, 2, 3, 6, 5]) (φ := []) ?_
            simp (maxSteps := 2000000) [w2, hset, putL]
          · have hkk : k = pl.length := by omega
            subst hkk
            have hset : (intRows pl ++ [[PV.int .i64 st]]).set pl.length [PV.int .i64 st] = intRows (pl ++ [st]) := by
              rw [List.set_append_right (h := by rw [intRows_len]; exact Nat.le_refl _), intRows_len, Nat.sub_self, List.set_cons_zero]
              simp [intRows]
            rw [if_neg hkl, if_neg hkl]
            have b5 : pn.length ≤ 1048576 := by
              rw [q2, List.length_append, List.length_replicate]
              omega
            simp (maxSteps := 2000000) [intRows_len, w4]
            refine ⟨by simp [Go.Ab.rowsOne], by omega, by omega, by simp [Go.Ab.rowsOne], by omega, by omega, by omega, CallZ.use hput rfl (.inr ⟨Pin.flat _, trivial⟩) rfl rfl ?_⟩
            simp (maxSteps := 2000000)
            refine Wk.weak (ρ := [0, 1, 2, 3, 8, 5]) (φ := []) ?_
            simp (maxSteps := 2000000) [w2, putL]
            simp [intRows]
      · rw [if_neg hx]
        simp (maxSteps := 2000000) [hi, Tone.rows_len, Tone.row_get, hx]
        refine Wk.weak (ρ := [0, 1, 2, 3, 4, 5]) (φ := []) ?_
        simp [w2]
    · simp (maxSteps := 2000000) [Tone.rows_len]
      refine Wk.weak (ρ := [0, 1, 2, 3, 4]) (φ := []) ?_
      simp [w1, noteD]
  · rw [List.take_of_length_le (by omega)]
    obtain ⟨o1, o2, o3⟩ := hov L.length (by omega)
    rw [List.take_length] at o1 o2 o3
    generalize overD t.tones per rest L = D at o1 o2 o3 ⊢
    rw [puts_eq]
    simp [intRows_len]
    refine ⟨fun hbad => ?_, fun g1 g2 => ?_⟩
    · have hn : ¬ (D.steps ≤ 4096 ∧ D.notes.length ≤ 32) := by omega
      simp only [if_neg hn]
      exact weak_nodrum
    · have hy : D.steps ≤ 4096 ∧ D.notes.length ≤ 32 := by omega
      simp only [if_pos hy]
      refine Wk.weak (ρ := [3, 4]) (φ := []) ?_
      simp
end Go.Proofs.Yteomgilojaibeaa
