/- Contracts: slices.SortStableFunc at tones that are sorted already. No condition. -/
import Derived.Test.YteomgilojaibeaaWb
namespace Go.Proofs.Yteomgilojaibeaa
open Go Go.Ab
set_option maxRecDepth 100000

set_option maxHeartbeats 4000000 in
theorem c_stableT (T : List Tone) (hs : SortedT T) (hl : T.length ≤ 1048576) :
    HFn Try.prog 200 [.sl 3 (Tone.rows T), .int .i64 T.length, cmpTF] [] (.tup []) [] := by
  refine hfn_intro hm Try.func200 (by kernel_rfl) rfl (by kernel_rfl) rfl ret0_ok ?_
  simp
  refine loop_rule hm (ι := {a : Nat // a ≤ T.length}) (fun a => ⟨[(0, .sl 3 (Tone.rows T)), (1, .int .i64 T.length), (2, cmpTF), (6, .int .i64 20), (7, .int .i64 a.1), (8, .int .i64 (a.1 + 20 : Nat))], []⟩) (fun a => T.length - a.1) (by kernel_rfl) ⟨0, by omega⟩ ?_ ?_
  · exact Wk.weak (ρ := []) (φ := []) (by simp)
  · rintro ⟨a, ha⟩
    by_cases hc : a + 20 ≤ T.length
    · have w1 : IntKind.i64.wrap (((a + 20 : Nat) : Int) + 20) = ((a + 20 + 20 : Nat) : Int) := by rw [w64 (by omega) (by omega)]; omega
      simp [hc, -Int.natCast_add]
      refine CallZ.use0 (c_insT T hs hl a (a + 20) (by omega) (by omega)) rfl rfl ?_
      simp [w1, -Int.natCast_add]
      exact ⟨a + 20, Wk.weak (ρ := []) (φ := []) (by simp [-Int.natCast_add]), by omega, by omega⟩
    · simp [hc, -Int.natCast_add]
      refine CallZ.use0 (c_insT T hs hl a T.length (by omega) (by omega)) rfl rfl ?_
      simp [-Int.natCast_add]
      refine loop_rule hm (ι := {s : Nat // 20 ≤ s ∧ s ≤ 4194304}) (fun s => ⟨[(0, .sl 3 (Tone.rows T)), (1, .int .i64 T.length), (2, cmpTF), (6, .int .i64 s.1)], []⟩) (fun s => T.length - s.1) (by kernel_rfl) ⟨20, by omega, by omega⟩ ?_ ?_
      · exact Wk.weak (ρ := []) (φ := []) (by simp)
      · rintro ⟨s, s1, s2⟩
        by_cases hd : s < T.length
        · have w2 : IntKind.i64.wrap (2 * (s : Int)) = ((2 * s : Nat) : Int) := by rw [w64 (by omega) (by omega)]; omega
          have w3 : IntKind.i64.wrap ((s : Int) * 2) = ((2 * s : Nat) : Int) := by rw [w64 (by omega) (by omega)]; omega
          simp [hd, w2, -Int.natCast_add, -Int.natCast_mul]
          refine loop_rule hm (ι := {a : Nat // a ≤ T.length}) (fun a => ⟨[(0, .sl 3 (Tone.rows T)), (1, .int .i64 T.length), (2, cmpTF), (6, .int .i64 s), (7, .int .i64 a.1), (8, .int .i64 (a.1 + 2 * s : Nat))], []⟩) (fun a => T.length - a.1) (by kernel_rfl) ⟨0, by omega⟩ ?_ ?_
          · exact Wk.weak (ρ := []) (φ := []) (by simp)
          · rintro ⟨a, ha⟩
            have w4 : IntKind.i64.wrap ((a : Int) + s) = ((a + s : Nat) : Int) := by rw [w64 (by omega) (by omega)]; omega
            by_cases he : a + 2 * s ≤ T.length
            · have w5 : IntKind.i64.wrap (((a + 2 * s : Nat) : Int) + ((2 * s : Nat) : Int)) = ((a + 2 * s + 2 * s : Nat) : Int) := by rw [w64 (by omega) (by omega)]; omega
              simp [he, w4, -Int.natCast_add, -Int.natCast_mul]
              refine CallZ.use0 (c_symT T hs hl (2 * s) a (a + s) (a + 2 * s) (by omega) (by omega) (by omega) he) rfl rfl ?_
              simp [w2, w5, -Int.natCast_add, -Int.natCast_mul]
              exact ⟨a + 2 * s, Wk.weak (ρ := []) (φ := []) (by simp [-Int.natCast_add, -Int.natCast_mul]), by omega, by omega⟩
            · by_cases hf : a + s < T.length
              · simp [he, hf, w4, -Int.natCast_add, -Int.natCast_mul]
                refine CallZ.use0 (c_symT T hs hl (2 * s) a (a + s) T.length (by omega) (by omega) hf (by omega)) rfl rfl ?_
                simp [w3, -Int.natCast_add, -Int.natCast_mul]
                exact ⟨2 * s, Wk.weak (ρ := []) (φ := []) (by simp [-Int.natCast_add, -Int.natCast_mul]), by omega, by omega⟩
              · simp [he, hf, w4, w3, -Int.natCast_add, -Int.natCast_mul]
                exact ⟨2 * s, Wk.weak (ρ := []) (φ := []) (by simp [-Int.natCast_add, -Int.natCast_mul]), by omega, by omega⟩
        · simp [hd]

theorem c_SortStableT (T : List Tone) (hs : SortedT T) (hl : T.length ≤ 1048576) :
    HFn Try.prog 132 [.sl 3 (Tone.rows T), cmpTF] [] (.tup []) [] := by
  refine hfn_intro hm Try.func132 (by kernel_rfl) rfl (by kernel_rfl) rfl ret0_ok ?_
  simp [Tone.rows_len]
  refine CallZ.use0 (c_stableT T hs hl) rfl rfl ?_
  simp
end Go.Proofs.Yteomgilojaibeaa
