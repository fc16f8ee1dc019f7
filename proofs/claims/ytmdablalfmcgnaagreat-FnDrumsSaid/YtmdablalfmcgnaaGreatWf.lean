/- Contracts: slices.SortStableFunc at tones that are sorted already. No condition.; Contracts: a drum is played. No condition. -/
import Derived.Test.YtmdablalfmcgnaaGreatWb
import Derived.Test.YtmdablalfmcgnaaGreatWe
import Derived.Test.YtmdablalfmcgnaaGreatUc
-- from Wc
namespace Go.Proofs.YtmdablalfmcgnaaGreat
open Go Go.Ab
set_option maxRecDepth 100000

set_option maxHeartbeats 4000000 in
theorem c_stableT (T : List Tone) (hs : SortedT T) (hl : T.length ≤ 1048576) :
    HFn Tryz.prog 77 [.sl 3 (Tone.rows T), .int .i64 T.length, cmpTF] [] (.tup []) [] := by
  refine hfn_intro hm Tryz.func77 (by kernel_rfl) rfl (by kernel_rfl) rfl ret0_ok ?_
  simp
  refine loop_rule hm (ι := {a : Nat // a ≤ T.length}) (fun a => ⟨[(0, .sl 3 (Tone.rows T)), (1, .int .i64 T.length), (2, cmpTF), (6, .int .i64 20), (7, .int .i64 a.1), (8, .int .i64 (a.1 + 20 : Nat))], []⟩) (fun a => T.length - a.1) (by kernel_rfl) ⟨0, by omega⟩ ?_ ?_
  · exact Wk.weak (ρ := []) (φ := []) (by simp)
  · rintro ⟨a, ha⟩
    by_cases hc : a + 20 ≤ T.length
    · have w1 : IntKind.i64.wrap (((a + 20 : Nat) : Int) + 20) = ((a + 20 + 20 : Nat) : Int) := by rw [w64 (by omega) (by omega)]; omega
      simp [hc, -Int.natCast_add]
      refine CallZ.use0 (c_insT T hs hl a (a + 20) (by omega) (by omega)) rfl rfl ?_
      simp [w1, -Int.natCast_add]
      exact ⟨a + 20, Wk.weak (ρ := []) (φ := []) (by simp [-Int.natCast_add]), by omega, by omega⟩
    · simp [hc, -Int.natCast_add]
      refine CallZ.use0 (c_insT T hs hl a T.length (by omega) (by omega)) rfl rfl ?_
      simp [-Int.natCast_add]
      refine loop_rule hm (ι := {s : Nat // 20 ≤ s ∧ s ≤ 4194304}) (fun s => ⟨[(0, .sl 3 (Tone.rows T)), (1, .int .i64 T.length), (2, cmpTF), (6, .int .i64 s.1)], []⟩) (fun s => T.length - s.1) (by kernel_rfl) ⟨20, by omega, by omega⟩ ?_ ?_
      · exact Wk.weak (ρ := []) (φ := []) (by simp)
      · rintro ⟨s, s1, s2⟩
        by_cases hd : s < T.length
        · have w2 : IntKind.i64.wrap (2 * (s : Int)) = ((2 * s : Nat) : Int) := by rw [w64 (by omega) (by omega)]; omega
          have w3 : IntKind.i64.wrap ((s : Int) * 2) = ((2 * s : Nat) : Int) := by rw [w64 (by omega) (by omega)]; omega
          simp [hd, w2, -Int.natCast_add, -Int.natCast_mul]
          refine loop_rule hm (ι := {a : Nat // a ≤ T.length}) (fun a => ⟨[(0, .sl 3 (Tone.rows T)), (1, .int .i64 T.length), (2, cmpTF), (6, .int .i64 s), (7, .int .i64 a.1), (8, .int .i64 (a.1 + 2 * s : Nat))], []⟩) (fun a => T.length - a.1) (by kernel_rfl) ⟨0, by omega⟩ ?_ ?_
          · exact Wk.weak (ρ := []) (φ := []) (by simp)
          · rintro ⟨a, ha⟩
            have w4 : IntKind.i64.wrap ((a : Int) + s) = ((a + s : Nat) : Int) := by rw [w64 (by omega) (by omega)]; omega
            by_cases he : a + 2 * s ≤ T.length
            · have w5 : IntKind.i64.wrap (((a + 2 * s : Nat) : Int) + ((2 * s : Nat) : Int)) = ((a + 2 * s + 2 * s : Nat) : Int) := by rw [w64 (by omega) (by omega)]; omega
              simp [he, w4, -Int.natCast_add, -Int.natCast_mul]
              refine CallZ.use0 (c_symT T hs hl (2 * s) a (a + s) (a + 2 * s) (by omega) (by omega) (by omega) he) rfl rfl ?_
              simp [w2, w5, -Int.natCast_add, -Int.natCast_mul]
              exact ⟨a + 2 * s, Wk.weak (ρ := []) (φ := []) (by simp [-Int.natCast_add, -Int.natCast_mul]), by omega, by omega⟩
            · by_cases hf : a + s < T.length
              · simp [he, hf, w4, -Int.natCast_add, -Int.natCast_mul]
                refine CallZ.use0 (c_symT T hs hl (2 * s) a (a + s) T.length (by omega) (by omega) hf (by omega)) rfl rfl ?_
                simp [w3, -Int.natCast_add, -Int.natCast_mul]
                exact ⟨2 * s, Wk.weak (ρ := []) (φ := []) (by simp [-Int.natCast_add, -Int.natCast_mul]), by omega, by omega⟩
              · simp [he, hf, w4, w3, -Int.natCast_add, -Int.natCast_mul]
                exact ⟨2 * s, Wk.weak (ρ := []) (φ := []) (by simp [-Int.natCast_add, -Int.natCast_mul]), by omega, by omega⟩
        · simp [hd]

theorem c_SortStableT (T : List Tone) (hs : SortedT T) (hl : T.length ≤ 1048576) :
    HFn Tryz.prog 48 [.sl 3 (Tone.rows T), cmpTF] [] (.tup []) [] := by
  refine hfn_intro hm Tryz.func48 (by kernel_rfl) rfl (by kernel_rfl) rfl ret0_ok ?_
  simp [Tone.rows_len]
  refine CallZ.use0 (c_stableT T hs hl) rfl rfl ?_
  simp
end Go.Proofs.YtmdablalfmcgnaaGreat
-- from Wf
namespace Go.Proofs.YtmdablalfmcgnaaGreat
open Go Go.Ab
set_option maxRecDepth 100000

set_option maxHeartbeats 4000000 in
theorem c_tuneOf (s : List UInt8) (T : List Tone) (hs : SortedT T) (hl : T.length ≤ 1048576) :
    MFn Tryz.prog 26 [.str s, .sf 0 3] [some (.arr 3 (Tone.rows T))] [] (.tup [if tuneOk ⟨s, T⟩ = true then .agg [.str s, .sf 0 3] else .agg [.str [], .sf 0 3], .int .i64 (if tuneOk ⟨s, T⟩ = true then 0 else 6)]) [some (.arr 3 (if tuneOk ⟨s, T⟩ = true then Tone.rows T else []))] := by
  refine mfn_intro [] hm Tryz.func26 (by kernel_rfl) rfl (by kernel_rfl) rfl (fun _ _ h => h) trivial ?_
  simp
  refine CallZ.use0 (c_SortStableT T hs hl) rfl rfl ?_
  simp
  refine CallZ.use0 (c_impl_ValidTune ⟨s, T⟩ hl) rfl rfl ?_
  simp
  refine ⟨fun h => ?_, fun h => ?_⟩
  · simp [h]
    exact weak_notune
  · simp [h]
    refine Wk.weak (ρ := [0]) (φ := []) ?_
    simp

set_option maxHeartbeats 8000000 in
theorem c_impl_PlayDrum (d : Drum) (per : Int) (hn : d.notes.length ≤ 1048576) (hp : d.pins.length ≤ 1048576) :
    HFn Tryz.prog 9 [.agg d.cells, .int .i64 per] [] (.tup [(playOf d per).res, .int .i64 (playCode d per)]) (playOf d per).objs := by
  refine hfn_intro hm Tryz.func9 (by kernel_rfl) rfl (by kernel_rfl) rfl (fun _ _ h => h) ?_
  simp [Drum.cells]
  refine CallZ.use0 (c_impl_ValidDrum d hn hp) rfl rfl ?_
  simp
  refine ⟨fun h => ?_, fun h => ?_⟩
  · have hc : playCode d per = 1 := by simp [playCode, h]
    have hD : playOf d per = ⟨[], []⟩ := by simp [playOf, hc]
    rw [hD, hc]
    exact weak_notune
  refine CallZ.use0 (c_isPer per) rfl rfl ?_
  simp
  refine ⟨fun hr => ?_, fun hr1 hr2 => ?_⟩
  · have hc : playCode d per = 2 := by
      have : ¬ (1 ≤ per ∧ per ≤ 1000) := by omega
      simp [playCode, h, this]
    have hD : playOf d per = ⟨[], []⟩ := by simp [playOf, hc]
    rw [hD, hc]
    exact weak_notune
  have hd := (validDrum_iff d).1 h
  have hpl := hd.pl
  have hs1 := hd.s1
  have hpt := play_len d per
  have hTl : (playTones d per).length ≤ 1048576 := by omega
  have hcode : playCode d per = if (playL d per).length ≤ 128 then (if tuneOk ⟨drumName, playL d per⟩ = true then 0 else 6) else 5 := by
    simp [playCode, h, hr1, hr2]
  have hsrt := c_SortFuncTone per (playPairs d per) (by simp [playPairs]; omega)
  rw [play_sort h hr1, playRows] at hsrt
  refine loop_upto hm d.pins.length (fun i => ⟨[(1, .int .i64 per), (2, .pb 0 0), (4, .pb 1 0), (5, .int .i64 0), (6, .sf 2 3), (18, .sl 2 (Pin.rows d.pins)), (19, .int .i64 d.pins.length), (20, .int .i64 i)], [some (.box [.int .i64 d.steps, .int .i64 d.rest, .sl 1 (intRows d.notes), .sl 2 (Pin.rows d.pins)]), some (.box [.str [], .nils]), some (.arr 3 (Tone.rows ((playTones d per).take i)))]⟩) (fun _ => True) (by kernel_rfl) ?_ trivial (fun i hi _ => ?_) (fun _ => ?_)
  · refine (weak_nil (t := 6) (z := 3) rfl).trans (Wk.weak (ρ := [0, 1, 2]) (φ := []) ?_)
    simp [Pin.rows_len, Tone.rows]
  · have w1 : IntKind.i64.wrap ((i : Int) + 1) = (i : Int) + 1 := w64 (by omega) (by omega)
    obtain ⟨g1, g2, g3, g4⟩ := pin_in h hi
    have hts : (playTones d per).take (i + 1) = (playTones d per).take i ++ [⟨noteAt d d.pins[i].hammer, d.pins[i].step * per, per⟩] := by
      rw [← List.take_append_getElem (show i < (playTones d per).length by omega)]
      simp [playTones]
    have htl : ((playTones d per).take i).length = i := by rw [List.length_take]; omega
    have hno : d.pins[i].hammer.toNat < d.notes.length := by omega
    have hna : noteAt d d.pins[i].hammer = d.notes[d.pins[i].hammer.toNat] := by simp [noteAt, hno]
    have m1 : 0 ≤ d.pins[i].step * per := Int.mul_nonneg g1 (by omega)
    have m2 : d.pins[i].step * per ≤ 4096 * 1000 := Int.mul_le_mul (by omega) hr2 (by omega) (by omega)
    have w2 : IntKind.i64.wrap (d.pins[i].step * per) = d.pins[i].step * per := w64 (by omega) (by omega)
    have hget : (intRows d.notes)[d.pins[i].hammer.toNat]'(by rw [intRows_len]; exact hno) = [.int .i64 d.notes[d.pins[i].hammer.toNat]] := by simp [intRows]
    have g5 : d.pins[i].hammer < (d.notes.length : Int) := by omega
    rw [hts, hna]
    generalize (playTones d per).take i = T at htl ⊢
    generalize d.notes[d.pins[i].hammer.toNat] = nn at hget ⊢
    simp (maxSteps := 2000000) [hi, Pin.rows_len, pinRow, intRows_len, hget, hno, g3, g5, w2, Tone.rows_len]
    refine ⟨by simp [Go.Ab.rowsOne], rfl, by omega, by omega, Wk.weak (ρ := [0, 1, 2]) (φ := []) ?_⟩
    simp (maxSteps := 2000000) [w1]
    simp [Tone.rows, Tone.cells]
  · rw [← hpt, List.take_length]
    simp
    refine CallZ.useK 2 hsrt rfl (by simp) rfl (by simp) rfl rfl ?_
    simp
    refine CallZ.useM [2] [] [2] (c_CompactTone (playTones d per) hTl) (by simp) rfl rfl (by simp) rfl rfl rfl (.inl rfl) ?_
    have hP : compT (playTones d per) (playTones d per).length = playL d per := by rw [hpt]; rfl
    rw [hP]
    have hPs := playL_sorted h hr1
    have hPl := playL_le d per
    have hof : playOf d per = if playCode d per = 0 then ⟨drumName, playL d per⟩ else ⟨[], []⟩ := rfl
    rw [hof, hcode]
    generalize playL d per = T at hPs hPl ⊢
    simp [Tone.rows_len]
    refine ⟨fun hb => ?_, fun hb => ?_⟩
    · have hb' : ¬ T.length ≤ 128 := by omega
      rw [if_neg hb', if_neg (by decide)]
      exact weak_notune
    · have hb' : T.length ≤ 128 := by omega
      rw [if_pos hb']
      refine CallZ.useM [2] [] [2] (c_tuneOf drumName T hPs (by omega)) (by simp [drumName]) rfl rfl (by simp) rfl (by split <;> rfl) rfl (.inl rfl) ?_
      by_cases hok : tuneOk ⟨drumName, T⟩ = true
      · rw [if_pos hok]
        simp
        refine Wk.weak (ρ := [2]) (φ := []) ?_
        simp [hok]
      · rw [if_neg hok]
        simp
        refine Wk.weak (ρ := [2]) (φ := []) ?_
        simp [hok, Tone.rows]
end Go.Proofs.YtmdablalfmcgnaaGreat
