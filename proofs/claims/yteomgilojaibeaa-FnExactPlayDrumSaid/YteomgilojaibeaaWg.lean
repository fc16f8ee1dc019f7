/- Contracts: the reference's played drum. No condition. -/
import Derived.Test.YteomgilojaibeaaWf
import Derived.Test.YteomgilojaibeaaDb
namespace Go.Proofs.Yteomgilojaibeaa
open Go Go.Ab
set_option maxRecDepth 100000

theorem compT_end (T : List Tone) : ∀ i, (h : 0 < i) → (hi : i ≤ T.length) → ∃ R, compT T i = R ++ [T[i - 1]'(by omega)]
  | 0, h, _ => by omega
  | i + 1, _, hi => by
    rw [compT_succ T (show i < T.length by omega)]
    by_cases hc : 0 < i ∧ T[i - 1]'(by omega) = T[i]'(by omega)
    · rw [if_pos hc]
      obtain ⟨R, hR⟩ := compT_end T i hc.1 (by omega)
      exact ⟨R, by rw [hR, hc.2]; rfl⟩
    · rw [if_neg hc]
      exact ⟨_, rfl⟩

set_option maxHeartbeats 8000000 in
theorem c_spec_PlayDrum (d : Drum) (per : Int) (hn : d.notes.length ≤ 1048576) (hp : d.pins.length ≤ 1048576) :
    HFn Try.prog 22 [.agg d.cells, .int .i64 per] [] (.tup [(playOf d per).res, .int .i64 (playCode d per)]) (playOf d per).objs := by
  refine hfn_intro hm Try.func22 (by kernel_rfl) rfl (by kernel_rfl) rfl (fun _ _ h => h) ?_
  simp [Drum.cells]
  refine CallZ.use0 (c_spec_l28Ok d hn hp) rfl rfl ?_
  simp
  refine ⟨fun h => ?_, fun h => ?_⟩
  · have hc : playCode d per = 1 := by simp [playCode, h]
    have hD : playOf d per = ⟨[], []⟩ := by simp [playOf, hc]
    rw [hD, hc]
    exact weak_notune
  refine CallZ.use0 (c_l00In per 1 1000) rfl rfl ?_
  simp
  refine ⟨fun hr => ?_, fun hr1 hr2 => ?_⟩
  · have hc : playCode d per = 2 := by
      have : ¬ (1 ≤ per ∧ per ≤ 1000) := by omega
      simp [playCode, h, this]
    have hD : playOf d per = ⟨[], []⟩ := by simp [playOf, hc]
    rw [hD, hc]
    exact weak_notune
  have hd := (validDrum_iff d).1 h
  have hpl := hd.pl
  have hs1 := hd.s1
  have hpt := play_len d per
  have hTl : (playTones d per).length ≤ 1048576 := by omega
  have hcode : playCode d per = if (playL d per).length ≤ 128 then (if tuneOk ⟨drumName, playL d per⟩ = true then 0 else 6) else 5 := by
    simp [playCode, h, hr1, hr2]
  refine loop_upto hm d.pins.length (fun i => ⟨[(1, .int .i64 per), (2, .pb 0 0), (4, .pb 1 0), (5, .int .i64 0), (6, .pb 2 0), (7, .int .i64 i)], [some (.box [.int .i64 d.steps, .int .i64 d.rest, .sl 1 (intRows d.notes), .sl 2 (Pin.rows d.pins)]), some (.box [.str [], .nils]), some (.box [.str drumName, .sf 3 3]), some (.arr 3 (Tone.rows (compT (playTones d per) i)))]⟩) (fun _ => True) (by kernel_rfl) ?_ trivial (fun i hi _ => ?_) (fun _ => ?_)
  · refine (weak_nilB 2 1 3 rfl rfl).trans (Wk.weak (ρ := [0, 1, 2, 3]) (φ := []) ?_)
    simp [Tone.rows, compT, drumName]
  · have w1 : IntKind.i64.wrap ((i : Int) + 1) = (i : Int) + 1 := w64 (by omega) (by omega)
    obtain ⟨g1, g2, g3, g4⟩ := pin_in h hi
    have hit : i < (playTones d per).length := by omega
    have hs := compT_succ (playTones d per) hit
    have hx : (playTones d per)[i] = ⟨noteAt d d.pins[i].hammer, d.pins[i].step * per, per⟩ := by simp [playTones]
    have hle := compT_le (playTones d per) i (by omega)
    have hno : d.pins[i].hammer.toNat < d.notes.length := by omega
    have hna : noteAt d d.pins[i].hammer = d.notes[d.pins[i].hammer.toNat] := by simp [noteAt, hno]
    have m1 : 0 ≤ d.pins[i].step * per := Int.mul_nonneg g1 (by omega)
    have m2 : d.pins[i].step * per ≤ 4096 * 1000 := Int.mul_le_mul (by omega) hr2 (by omega) (by omega)
    have w2 : IntKind.i64.wrap (d.pins[i].step * per) = d.pins[i].step * per := w64 (by omega) (by omega)
    have hget : (intRows d.notes)[d.pins[i].hammer.toNat]'(by rw [intRows_len]; exact hno) = [.int .i64 d.notes[d.pins[i].hammer.toNat]] := by simp [intRows]
    have g5 : d.pins[i].hammer < (d.notes.length : Int) := by omega
    have hend := fun h0 => compT_end (playTones d per) i h0 (by omega)
    rw [hna] at hx
    rw [hs]
    generalize (playTones d per)[i] = x at hx ⊢
    obtain ⟨y, hy⟩ : ∃ y, (playTones d per)[i - 1]'(by omega) = y := ⟨_, rfl⟩
    simp only [hy] at hend ⊢
    clear hs
    generalize compT (playTones d per) i = C at hle hend ⊢
    generalize d.notes[d.pins[i].hammer.toNat] = nn at hget hx ⊢
    by_cases h0 : i = 0
    · have hC : C = [] := by cases C with
        | nil => rfl
        | cons _ _ => simp at hle; omega
      subst hC
      rw [if_neg (by omega), hx]
      simp (maxSteps := 2000000) [hi, Pin.rows_len, pinRow, intRows_len, hget, hno, g3, g5, w2, Tone.rows_len]
      refine ⟨by simp [Go.Ab.rowsOne], Wk.weak (ρ := [0, 1, 2, 3]) (φ := []) ?_⟩
      simp (maxSteps := 2000000) [w1, drumName]
      simp [Tone.rows, Tone.cells]
    · obtain ⟨R, hR⟩ := hend (by omega)
      subst hR
      have hRl : (Tone.rows (R ++ [y])).length = R.length + 1 := by simp [Tone.rows_len]
      have hRg : (Tone.rows (R ++ [y]))[R.length]'(by omega) = [.int .i64 y.note, .int .i64 y.start, .int .i64 y.length] := by simp [Tone.rows, Tone.cells]
      simp at hle
      have w3 : IntKind.i64.wrap ((R.length : Int) + 1 - 1) = (R.length : Int) := by rw [w64 (by omega) (by omega)]; omega
      subst hx
      have w4 : IntKind.i64.wrap (R.length : Int) = (R.length : Int) := w64 (by omega) (by omega)
      have hz : ¬ (R.length : Int) + 1 = 0 := by omega
      have hz2 : (R.length : Int) < (R.length : Int) + 1 := by omega
      by_cases he : y = ⟨nn, d.pins[i].step * per, per⟩
      · rw [if_pos ⟨by omega, he⟩]
        subst he
        simp (maxSteps := 2000000) [hi, Pin.rows_len, pinRow, intRows_len, hget, hno, g3, g5, w2, hRl, hRg, w4, hz, hz2]
        refine Wk.weak (ρ := [0, 1, 2, 3]) (φ := []) ?_
        simp (maxSteps := 2000000) [w1, drumName]
      · rw [if_neg fun h => he h.2]
        have hne : ¬ (y.note = nn ∧ y.start = d.pins[i].step * per ∧ y.length = per) := fun h => he (Tone.eq_iff.2 h)
        simp (maxSteps := 2000000) [hi, Pin.rows_len, pinRow, intRows_len, hget, hno, g3, g5, w2, hRl, hRg, w4, hz, hz2]
        refine ⟨fun _ => ⟨by simp [Go.Ab.rowsOne], by omega, by omega, Wk.weak (ρ := [0, 1, 2, 3]) (φ := []) ?_⟩, fun q1 q2 q3 => absurd ⟨q1, q2, q3⟩ hne⟩
        simp (maxSteps := 2000000) [w1, drumName]
        simp [Tone.rows, Tone.cells]
  · have hP : compT (playTones d per) d.pins.length = playL d per := rfl
    rw [hP]
    have hPl := playL_le d per
    have hof : playOf d per = if playCode d per = 0 then ⟨drumName, playL d per⟩ else ⟨[], []⟩ := rfl
    rw [hof, hcode]
    generalize playL d per = T at hPl ⊢
    simp [Tone.rows_len, Pin.rows_len]
    refine ⟨fun hb => ?_, fun hb => ?_⟩
    · have hb' : ¬ T.length ≤ 128 := by omega
      rw [if_neg hb', if_neg (by decide)]
      exact weak_notune
    · have hb' : T.length ≤ 128 := by omega
      rw [if_pos hb']
      refine CallZ.use0 (c_l25Ok ⟨drumName, T⟩ (by simp only; omega)) rfl rfl ?_
      by_cases hok : tuneOk ⟨drumName, T⟩ = true
      · simp only [hok]
        simp
        refine Wk.weak (ρ := [3]) (φ := []) ?_
        simp
      · have hok' : tuneOk ⟨drumName, T⟩ = false := by simpa using hok
        simp only [hok']
        simp
        exact weak_notune
end Go.Proofs.Yteomgilojaibeaa
