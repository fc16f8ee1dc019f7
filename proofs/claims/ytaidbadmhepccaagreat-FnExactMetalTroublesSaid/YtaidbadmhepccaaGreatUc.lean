/- Contracts: valid tunes. No condition. -/
import Derived.Test.YtaidbadmhepccaaGreatUb
import Derived.Test.YtaidbadmhepccaaGreatCf
import Derived.Test.YtaidbadmhepccaaGreatTI
import Derived.Test.YtaidbadmhepccaaGreatCm
namespace Go.Proofs.YtaidbadmhepccaaGreat
open Go Go.Ab
set_option maxRecDepth 100000

theorem toneAt_eq {l : List Tone} {i : Nat} (hi : i < l.length) : toneAt l i = (toneOk l[i] && (decide (i = 0) || toneLt (l[i - 1]'(by omega)) l[i])) := by
  have hx := List.getElem?_eq_getElem hi
  have hy : l[i - 1]? = some (l[i - 1]'(by omega)) := List.getElem?_eq_getElem (by omega)
  simp [toneAt, hx, hy]

theorem c_impl_ValidTune (t : Tune) (hl : t.tones.length ≤ 1048576) : HFn Tryz.prog 148 [.agg t.cells] [] (.bool (tuneOk t)) [] := by
  refine hfn_intro hm Tryz.func148 (by kernel_rfl) rfl (by kernel_rfl) rfl ret0_ok ?_
  simp [Tune.cells, Tone.rows_len]
  refine loop_upto hm t.tones.length (fun i => ⟨[(1, .pb 0 0), (6, .sl 3 (Tone.rows t.tones)), (7, .int .i64 t.tones.length), (8, .int .i64 i)], [some (.box [.str t.name, .sl 3 (Tone.rows t.tones)])]⟩) (fun i => ∀ j, j < i → toneAt t.tones j = true) (by kernel_rfl) ?_ (by simp) (fun i hi hI => ?_) (fun hI => ?_)
  · exact Wk.weak (ρ := [0]) (φ := []) (by simp)
  · have e1 : IntKind.i64.wrap ((i : Int) - 1) = i - 1 := w64 (by omega) (by omega)
    have hil : i - 1 < t.tones.length := by omega
    have ho := toneAt_eq hi
    have hlt := cmpTone_lt t.tones[i - 1] t.tones[i]
    simp [Tone.rows_len, Tone.row_get, hi]
    refine CallZ.use0 (c_validTone t.tones[i]) rfl rfl ?_
    simp [Tone.rows_len, Tone.row_get, e1, hil]
    refine ⟨fun a b => ⟨a, b⟩, fun a b => ⟨⟨a, b⟩, by omega, by omega⟩, fun a b => ⟨a, b⟩, CallY.use (res := .int .i64 (cmpTone t.tones[i - 1] t.tones[i])) (fun _ => ⟨rfl, c_compareTones t.tones[i - 1] t.tones[i]⟩) rfl rfl ?_⟩
    simp
    refine ⟨by grind, fun h => ?_, fun h1 h2 => ⟨upto_succ hI ?_, ?_⟩⟩
    · have : toneAt t.tones i = false := by
        rw [ho]
        rcases h with h | ⟨h, h'⟩
        · simp [h]
        · have h4 : ¬ i = 0 := by omega
          simp [hlt.1 h', h4]
      simp [tuneOk, all_range_false hi this]
    · rw [ho, h1]
      by_cases h4 : i = 0
      · simp [h4]
      · have h5 := h2 (by omega)
        have h6 : ¬ 0 ≤ cmpTone t.tones[i - 1] t.tones[i] := by omega
        rw [hlt] at h6
        simp [h6]
    · refine Wk.weak (ρ := [0]) (φ := []) ?_
      simp
      exact w64 (by omega) (by omega)
  · simp
    have hall : (List.range t.tones.length).all (toneAt t.tones) = true := all_range_true hI
    refine CallZ.use0 (c_impl_IsName t.name) rfl rfl ?_
    simp [tuneOk, hall, Tone.rows_len]
    have h128 : ((t.tones.length : Int) ≤ 128) ↔ t.tones.length ≤ 128 := by omega
    simp [h128]

end Go.Proofs.YtaidbadmhepccaaGreat
