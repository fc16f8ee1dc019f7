/- Contracts: the notes of a tune. No condition. -/
import Derived.Test.YtmdablalfmcgnaaGreatVa
import Derived.Test.YtmdablalfmcgnaaGreatUc
namespace Go.Proofs.YtmdablalfmcgnaaGreat
open Go Go.Ab
set_option maxRecDepth 100000

theorem c_DrumOf1 (x : Tone) : HFn Tryz.prog 14 [.agg x.cells] [] (.bool true) [] := by
  refine hfn_intro hm Tryz.func14 (by kernel_rfl) rfl (by kernel_rfl) rfl ret0_ok ?_
  simp [Tone.cells]
theorem c_HammersNeeded1 (x : Tone) : HFn Tryz.prog 19 [.agg x.cells] [] (.bool true) [] := by
  refine hfn_intro hm Tryz.func19 (by kernel_rfl) rfl (by kernel_rfl) rfl ret0_ok ?_
  simp [Tone.cells]
/-- The notes of a tune, each once, in order. -/
def notesL (t : Tune) : List Int := Lib.compact (sortN (t.tones.map Tone.note))
theorem c_notesOf (t : Tune) (f : Nat) (hf : ∀ x : Tone, HFn Tryz.prog f [.agg x.cells] [] (.bool true) []) (hl : t.tones.length ≤ 1048576) :
    HFn Tryz.prog 13 [.agg t.cells, .fn f []] [] (.sf 0 1) [some (.arr 1 (intRows (notesL t)))] := by
  refine hfn_intro hm Tryz.func13 (by kernel_rfl) rfl (by kernel_rfl) rfl (fun _ _ h => h) ?_
  simp [Tune.cells, Tone.rows_len]
  obtain ⟨ns, hns⟩ : ∃ ns, t.tones.map Tone.note = ns := ⟨_, rfl⟩
  have hnl : ns.length = t.tones.length := by rw [← hns]; simp
  refine loop_upto hm t.tones.length (fun i => ⟨[(1, .fn f []), (2, .pb 0 0), (5, .sf 1 1), (9, .sl 3 (Tone.rows t.tones)), (10, .int .i64 t.tones.length), (11, .int .i64 i)], [some (.box [.str t.name, .sl 3 (Tone.rows t.tones)]), some (.arr 1 (intRows (ns.take i)))]⟩) (fun _ => True) (by kernel_rfl) ?_ trivial (fun i hi _ => ?_) (fun _ => ?_)
  · refine (weak_nil (t := 5) (z := 1) rfl).trans (Wk.weak (ρ := [0, 1]) (φ := []) ?_)
    simp [intRows]
  · have w1 : IntKind.i64.wrap ((i : Int) + 1) = (i : Int) + 1 := w64 (by omega) (by omega)
    have hs : ns.take (i + 1) = ns.take i ++ [t.tones[i].note] := by
      rw [← List.take_append_getElem (by omega)]
      subst hns
      simp
    simp [hi, Tone.rows_len, Tone.row_get]
    refine CallZ.use0 (hf t.tones[i]) rfl rfl ?_
    simp
    have hlt : (intRows (ns.take i)).length ≤ 1048576 := by rw [intRows_len, List.length_take]; omega
    refine ⟨by simp [Go.Ab.rowsOne], by omega, by omega, Wk.weak (ρ := [0, 1]) (φ := []) ?_⟩
    simp [w1, hs, intRows]
  · have hsl : (sortN ns).length = ns.length := List.length_mergeSort _
    have hcl := compactI_le (sortN ns)
    rw [List.take_of_length_le (by omega)]
    simp
    refine CallZ.useK 1 (c_SortInt ns (by omega)) rfl (by simp) rfl (by simp) rfl rfl ?_
    simp
    refine CallZ.useK 1 (c_CompactInt (sortN ns) (by omega)) rfl (by simp) rfl (by simp) rfl rfl ?_
    have hN : notesL t = Lib.compact (sortN ns) := by unfold notesL; rw [hns]
    rw [← hN] at hcl ⊢
    generalize notesL t = K at hcl ⊢
    obtain ⟨T, hT⟩ : ∃ T, K ++ List.replicate ((sortN ns).length - K.length) 0 = T := ⟨_, rfl⟩
    have hTl : (intRows T).length = (sortN ns).length := by rw [← hT]; simp [intRows]; omega
    have hTK : (intRows T).take K.length = intRows K := by rw [← hT]; simp [intRows]
    rw [hT]
    simp
    refine (weak_cut (t := 0) (k := 1) (z := 1) (len := K.length) (rows := intRows T) rfl rfl (by omega)).trans (Wk.weak (ρ := [1]) (φ := []) ?_)
    rw [hTK]
    simp
end Go.Proofs.YtmdablalfmcgnaaGreat
