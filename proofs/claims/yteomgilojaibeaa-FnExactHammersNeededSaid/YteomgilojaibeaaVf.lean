/- Contracts: how many hammers a tune needs. No condition. -/
import Derived.Test.YteomgilojaibeaaVe
import Derived.Test.YteomgilojaibeaaCk
namespace Go.Proofs.Yteomgilojaibeaa
open Go Go.Ab
set_option maxRecDepth 100000

theorem c_impl_HammersNeeded (t : Tune) (per rest : Int) (hl : t.tones.length ≤ 1048576) :
    HFn Try.prog 20 [.agg t.cells, .int .i64 per, .int .i64 rest] [] (.tup [.int .i64 (hamsOf t per rest), .int .i64 (askD t per rest)]) [] := by
  refine hfn_intro hm Try.func20 (by kernel_rfl) rfl (by kernel_rfl) rfl ret0_ok ?_
  simp [Tune.cells]
  refine CallZ.use0 (c_drummed t per rest hl) rfl rfl ?_
  simp
  refine ⟨fun h => by simp [hamsOf, h], fun h => ?_⟩
  obtain ⟨h1, h2, h3, h4, h5⟩ := askD_ok h
  have hst := tune_steps h1 h2
  have hl128 := (tune_ok h1).1
  have hnl := notesL_le t
  refine CallZ.use (c_notesOf t _ c_HammersNeeded1 hl) rfl (.inr ⟨flat_intRows _, trivial⟩) rfl rfl ?_
  simp
  generalize hL : notesL t = L at hnl
  refine loop_upto hm L.length (fun i => ⟨[(1, .int .i64 per), (2, .int .i64 rest), (3, .pb 0 0), (9, .int .i64 (hamsN t.tones per rest (L.take i))), (22, .sl 1 (intRows L)), (23, .int .i64 L.length), (24, .int .i64 i)], [some (.box [.str t.name, .sl 3 (Tone.rows t.tones)])]⟩) (fun _ => True) (by kernel_rfl) ?_ trivial (fun i hi _ => ?_) (fun _ => ?_)
  · refine Wk.weak (ρ := [0]) (φ := [1]) ?_
    simp [hamsN, intRows_len]
  · have hget : (intRows L)[i]'(by rw [intRows_len]; exact hi) = [.int .i64 L[i]] := by simp [intRows]
    have w1 : IntKind.i64.wrap ((i : Int) + 1) = (i : Int) + 1 := w64 (by omega) (by omega)
    have hs := hamsN_succ t.tones per rest L hi
    have b1 := hams_le t.tones per rest L i (by omega)
    have b2 := ham_le L[i] per rest t.tones
    have b3 : i * t.tones.length ≤ 128 * 128 := Nat.mul_le_mul (by omega) hl128
    have w2 : IntKind.i64.wrap ((hamsN t.tones per rest (L.take i) : Int) + ((hamL L[i] per rest t.tones).1.length : Int)) = (hamsN t.tones per rest (L.take i) : Int) + ((hamL L[i] per rest t.tones).1.length : Int) := w64 (by omega) (by omega)
    simp [hi, intRows_len, hget]
    refine CallZ.use (c_hammersFor t L[i] per rest hl h2 (by unfold Small; omega) (fun x hx => by have := hst x hx; unfold Small; omega)) rfl (.inr ⟨flat_intRows _, trivial⟩) rfl rfl ?_
    simp
    refine Wk.weak (ρ := [0]) (φ := []) ?_
    simp [w1, w2, hs]
  · simp [hamsOf, h, hL]

theorem c_spec_HammersNeeded (t : Tune) (per rest : Int) (hl : t.tones.length ≤ 1048576) :
    HFn Try.prog 19 [.agg t.cells, .int .i64 per, .int .i64 rest] [] (.tup [.int .i64 (hamsOf t per rest), .int .i64 (askD t per rest)]) [] := by
  refine hfn_intro hm Try.func19 (by kernel_rfl) rfl (by kernel_rfl) rfl ret0_ok ?_
  simp [Tune.cells]
  refine CallZ.use0 (c_l28Ask t per rest hl) rfl rfl ?_
  simp
  refine ⟨fun h => by simp [hamsOf, h], fun h => ?_⟩
  obtain ⟨h1, h2, h3, h4, h5⟩ := askD_ok h
  have hst := tune_steps h1 h2
  have hl128 := (tune_ok h1).1
  refine loop_upto hm 128 (fun n => ⟨[(1, .int .i64 per), (2, .int .i64 rest), (3, .pb 0 0), (9, .int .i64 (hamsN t.tones per rest (((List.range 128).map Int.ofNat).take n))), (10, .int .i64 n)], [some (.box [.str t.name, .sl 3 (Tone.rows t.tones)])]⟩) (fun _ => True) (by kernel_rfl) ?_ trivial (fun n hn _ => ?_) (fun _ => ?_)
  · refine Wk.weak (ρ := [0]) (φ := []) ?_
    simp [hamsN]
  · have hn1 : (n : Int) ≤ 127 := by omega
    have hrl : ((List.range 128).map Int.ofNat).length = 128 := by simp
    have hs := hamsN_succ t.tones per rest ((List.range 128).map Int.ofNat) (j := n) (by omega)
    have hgn : ((List.range 128).map Int.ofNat)[n]'(by omega) = (n : Int) := by simp
    rw [hgn, ham_eq_most h1 h2 _ _ h4] at hs
    have b1 := hams_le t.tones per rest ((List.range 128).map Int.ofNat) n (by omega)
    have b2 := ham_le n per rest t.tones
    rw [ham_eq_most h1 h2 _ _ h4] at b2
    have b3 : n * t.tones.length ≤ 128 * 128 := Nat.mul_le_mul (by omega) hl128
    generalize hamsN t.tones per rest (((List.range 128).map Int.ofNat).take n) = S at hs b1 ⊢
    generalize hamsN t.tones per rest (((List.range 128).map Int.ofNat).take (n + 1)) = S' at hs ⊢
    simp [hn1]
    refine loop_upto hm t.tones.length (fun i => ⟨[(1, .int .i64 per), (2, .int .i64 rest), (3, .pb 0 0), (9, .int .i64 S), (10, .int .i64 n), (11, .int .i64 (mostN n per rest t.tones i)), (12, .int .i64 i)], [some (.box [.str t.name, .sl 3 (Tone.rows t.tones)])]⟩) (fun _ => True) (by kernel_rfl) ?_ trivial (fun i hi _ => ?_) (fun _ => ?_)
    · refine Wk.weak (ρ := [0]) (φ := []) ?_
      simp [mostN]
    · have w1 : IntKind.i64.wrap ((i : Int) + 1) = (i : Int) + 1 := w64 (by omega) (by omega)
      have hm1 := mostN_succ n per rest hi
      have hf := hst t.tones[i] (List.getElem_mem hi)
      have wf : IntKind.i64.wrap (t.tones[i].start.tdiv per) = t.tones[i].start.tdiv per := w64 (by omega) (by omega)
      simp [hi, Tone.rows_len, Tone.row_get, wf]
      refine ⟨by omega, ?_⟩
      refine loop_upto hm t.tones.length (fun k => ⟨[(1, .int .i64 per), (2, .int .i64 rest), (3, .pb 0 0), (9, .int .i64 S), (10, .int .i64 n), (11, .int .i64 (mostN n per rest t.tones i)), (12, .int .i64 i), (13, .int .i64 (t.tones[i].start.tdiv per)), (14, .int .i64 ((if t.tones[i].note = n then winN n per rest (t.tones.take k) (t.tones[i].start.tdiv per) else 0 : Nat) : Int)), (15, .int .i64 k)], [some (.box [.str t.name, .sl 3 (Tone.rows t.tones)])]⟩) (fun _ => True) (by kernel_rfl) ?_ trivial (fun k hk _ => ?_) (fun _ => ?_)
      · refine Wk.weak (ρ := [0]) (φ := []) ?_
        simp [winN]
      · have w2 : IntKind.i64.wrap ((k : Int) + 1) = (k : Int) + 1 := w64 (by omega) (by omega)
        have hg := hst t.tones[k] (List.getElem_mem hk)
        have wg : IntKind.i64.wrap (t.tones[k].start.tdiv per) = t.tones[k].start.tdiv per := w64 (by omega) (by omega)
        have hw := winN_append n per rest (t.tones.take k) t.tones[k] (t.tones[i].start.tdiv per)
        rw [List.take_append_getElem hk] at hw
        have b4 : winN n per rest (t.tones.take k) (t.tones[i].start.tdiv per) ≤ k := by
          have := List.countP_le_length (p := inW n per rest (t.tones[i].start.tdiv per)) (l := t.tones.take k)
          rw [List.length_take] at this
          unfold winN
          omega
        generalize winN n per rest (t.tones.take k) (t.tones[i].start.tdiv per) = W at hw b4 ⊢
        generalize winN n per rest (t.tones.take (k + 1)) (t.tones[i].start.tdiv per) = W' at hw ⊢
        unfold inW at hw
        generalize t.tones[i].start.tdiv per = f at hf hw ⊢
        generalize hgg : t.tones[k].start.tdiv per = g at hg hw wg ⊢
        have w3 : IntKind.i64.wrap (f + rest) = f + rest := w64 (by omega) (by omega)
        have w4 : IntKind.i64.wrap ((W : Int) + 1) = (W : Int) + 1 := w64 (by omega) (by omega)
        by_cases hx : t.tones[i].note = n
        · by_cases hy : t.tones[k].note = n
          · simp [hi, hk, Tone.rows_len, Tone.row_get, hgg, wg, hx, hy, w3]
            refine ⟨by omega, fun h6 h7 => ?_, fun h6 => ?_⟩
            · refine Wk.weak (ρ := [0]) (φ := []) ?_
              simp [hy, h6, h7] at hw
              simp [w2, w4, hw]
            · refine Wk.weak (ρ := [0]) (φ := []) ?_
              have : W' = W := by
                rw [hw]
                simp [hy]
                omega
              simp [w2, this]
          · simp [hi, hk, Tone.rows_len, Tone.row_get, hgg, wg, hx, hy, w3]
            refine ⟨by omega, ?_⟩
            refine Wk.weak (ρ := [0]) (φ := []) ?_
            simp [hy] at hw
            simp [w2, hw]
        · simp [hi, hk, Tone.rows_len, Tone.row_get, hgg, wg, hx, w3]
          refine ⟨by omega, ?_⟩
          refine Wk.weak (ρ := [0]) (φ := []) ?_
          simp [w2]
      · rw [List.take_length]
        have hmn : (if t.tones[i].note = n then winN n per rest t.tones (t.tones[i].start.tdiv per) else 0 : Nat) = manyN n per rest t.tones t.tones[i] := rfl
        rw [hmn]
        simp [Tone.rows_len]
        refine CallZ.use0 (c_l00Max _ _) rfl rfl ?_
        simp
        refine Wk.weak (ρ := [0]) (φ := []) ?_
        simp [w1, hm1]
        omega
    · generalize mostN n per rest t.tones t.tones.length = M at hs b2
      have w5 : IntKind.i64.wrap ((S : Int) + (M : Int)) = (S : Int) + (M : Int) := w64 (by omega) (by omega)
      have w6 : IntKind.i64.wrap ((n : Int) + 1) = (n : Int) + 1 := w64 (by omega) (by omega)
      simp [Tone.rows_len]
      refine Wk.weak (ρ := [0]) (φ := []) ?_
      simp [w5, w6, hs]
  · simp [hamsOf, h]
    rw [List.take_of_length_le (by simp), hams_all h1]
end Go.Proofs.Yteomgilojaibeaa
