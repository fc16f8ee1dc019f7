/- Contracts: sorting tones that are sorted already. No condition. -/
import Derived.Test.YtmdablalfmcgnaaGreatUb
import Derived.Test.YtmdablalfmcgnaaGreatEd
namespace Go.Proofs.YtmdablalfmcgnaaGreat
open Go Go.Ab
set_option maxRecDepth 100000

/-- The tones stand in order. -/
def SortedT (T : List Tone) : Prop := ∀ i j (_ : i ≤ j) (hj : j < T.length), 0 ≤ cmpTone T[j] (T[i]'(by omega))

abbrev cmpTF : PV := .fn 24 []
theorem c_insT (T : List Tone) (hs : SortedT T) (hl : T.length ≤ 1048576) (a b : Nat) (hb : b ≤ T.length) (ha : a ≤ 1048576) :
    HFn Tryz.prog 69 [.sl 3 (Tone.rows T), .int .i64 a, .int .i64 b, cmpTF] [] (.tup []) [] := by
  refine hfn_intro hm Tryz.func69 (by kernel_rfl) rfl (by kernel_rfl) rfl ret0_ok ?_
  have w0 : IntKind.i64.wrap ((a : Int) + 1) = ((a + 1 : Nat) : Int) := by rw [w64 (by omega) (by omega)]; omega
  simp [w0, -Int.natCast_add]
  refine loop_upto hm (b - (a + 1)) (fun k => ⟨[(0, .sl 3 (Tone.rows T)), (1, .int .i64 a), (2, .int .i64 b), (3, cmpTF), (8, .int .i64 (a + 1 + k : Nat))], []⟩) (fun _ => True) (by kernel_rfl) ?_ trivial (fun k hk _ => ?_) (fun _ => ?_)
  · exact Wk.weak (ρ := []) (φ := []) (by simp)
  · have hlt : a + 1 + k < b := by omega
    simp [hlt, -Int.natCast_add]
    refine loop_upto hm 0 (fun j => ⟨[(0, .sl 3 (Tone.rows T)), (1, .int .i64 a), (2, .int .i64 b), (3, cmpTF), (8, .int .i64 (a + 1 + k : Nat)), (9, .int .i64 (a + 1 + k : Nat))], []⟩) (fun _ => True) (by kernel_rfl) ?_ trivial (fun j hj _ => absurd hj (by omega)) (fun _ => ?_)
    · exact Wk.weak (ρ := []) (φ := []) (by simp)
    · have hgt : a < a + 1 + k := by omega
      have w1 : IntKind.i64.wrap (((a + 1 + k : Nat) : Int) - 1) = ((a + k : Nat) : Int) := by rw [w64 (by omega) (by omega)]; omega
      have w2 : IntKind.i64.wrap (((a + 1 + k : Nat) : Int) + 1) = ((a + 1 + (k + 1) : Nat) : Int) := by rw [w64 (by omega) (by omega)]; omega
      have hi1 : a + 1 + k < T.length := by omega
      have hi2 : a + k < T.length := by omega
      have hc := hs (a + k) (a + 1 + k) (by omega) hi1
      simp [hgt, w1, Tone.rows_len, Tone.row_get, hi1, hi2, -Int.natCast_add]
      refine CallY.use (res := .int .i64 (cmpTone T[a + 1 + k] T[a + k])) (fun _ => ⟨rfl, c_compareTones T[a + 1 + k] T[a + k]⟩) rfl rfl ?_
      have hnn : ¬ cmpTone T[a + 1 + k] T[a + k] < 0 := by omega
      simp [hnn, -Int.natCast_add]
      refine Wk.weak (ρ := []) (φ := []) ?_
      simp [w2, -Int.natCast_add]
  · have hge : ¬ (a + 1 + (b - (a + 1)) < b) := by omega
    simp [hge, -Int.natCast_add]

set_option maxHeartbeats 8000000 in
theorem c_symT (T : List Tone) (hs : SortedT T) (hl : T.length ≤ 1048576) : ∀ (N a m b : Nat), b - a ≤ N → a < m → m < b → b ≤ T.length →
    HFn Tryz.prog 98 [.sl 3 (Tone.rows T), .int .i64 a, .int .i64 m, .int .i64 b, cmpTF] [] (.tup []) []
  | 0, a, m, b, h0, h1, h2, h3 => by omega
  | N + 1, a, m, b, h0, h1, h2, h3 => by
    refine hfn_intro hm Tryz.func98 (by kernel_rfl) rfl (by kernel_rfl) rfl ret0_ok ?_
    have w0 : IntKind.i64.wrap ((m : Int) - a) = ((m - a : Nat) : Int) := by rw [w64 (by omega) (by omega)]; omega
    have w1 : IntKind.i64.wrap ((b : Int) - m) = ((b - m : Nat) : Int) := by rw [w64 (by omega) (by omega)]; omega
    obtain ⟨d1, hda⟩ : ∃ d1, m - a = d1 := ⟨_, rfl⟩
    obtain ⟨d2, hdb⟩ : ∃ d2, b - m = d2 := ⟨_, rfl⟩
    rw [hda] at w0
    rw [hdb] at w1
    by_cases c1 : d1 = 1
    · simp [w0, c1]
      refine loop_rule hm (ι := {j : Nat // m ≤ j ∧ j ≤ b}) (fun s => ⟨[(0, .sl 3 (Tone.rows T)), (1, .int .i64 a), (2, .int .i64 m), (3, .int .i64 b), (4, cmpTF), (10, .int .i64 m), (11, .int .i64 s.1)], []⟩) (fun s => s.1) (by kernel_rfl) ⟨b, by omega, by omega⟩ ?_ ?_
      · exact Wk.weak (ρ := []) (φ := []) (by simp)
      · rintro ⟨j, hj1, hj2⟩
        simp
        refine ⟨fun hlt => ?_, fun hge => ?_⟩
        · have hmid := mid_eq m j (by omega)
          have hd1 : m ≤ (m + j) / 2 := by omega
          have hd2 : (m + j) / 2 < j := by omega
          generalize (m + j) / 2 = q at hmid hd1 hd2
          have g1 : q < T.length := by omega
          have g2 : a < T.length := by omega
          have hc := hs a q (by omega) g1
          have hnn : ¬ cmpTone T[q] T[a] < 0 := by omega
          try simp at hmid
          simp [hmid, Tone.rows_len, Tone.row_get, g1, g2]
          refine CallZ.use0 (c_compareTones T[q] T[a]) rfl rfl ?_
          simp [hnn]
          exact ⟨q, Wk.weak (ρ := []) (φ := []) (by simp), by omega, by omega⟩
        · refine loop_upto hm 0 (fun _ => ⟨[(0, .sl 3 (Tone.rows T)), (1, .int .i64 a), (2, .int .i64 m), (3, .int .i64 b), (4, cmpTF), (10, .int .i64 m), (13, .int .i64 a)], []⟩) (fun _ => True) (by kernel_rfl) ?_ trivial (fun j hj _ => absurd hj (by omega)) (fun _ => ?_)
          · exact Wk.weak (ρ := []) (φ := []) (by simp)
          · have w2 : IntKind.i64.wrap ((m : Int) - 1) = ((m - 1 : Nat) : Int) := by rw [w64 (by omega) (by omega)]; omega
            have hn : ¬ a < m - 1 := by omega
            simp [w2, hn]
    · have c1' : ¬ (d1 : Int) = 1 := by omega
      by_cases c2 : d2 = 1
      · simp (maxSteps := 2000000) [w0, c1', w1, c2]
        refine loop_rule hm (ι := {j : Nat // a ≤ j ∧ j ≤ m}) (fun s => ⟨[(0, .sl 3 (Tone.rows T)), (1, .int .i64 a), (2, .int .i64 m), (3, .int .i64 b), (4, cmpTF), (14, .int .i64 s.1), (15, .int .i64 m)], []⟩) (fun s => m - s.1) (by kernel_rfl) ⟨a, by omega, by omega⟩ ?_ ?_
        · exact Wk.weak (ρ := []) (φ := []) (by simp)
        · rintro ⟨j, hj1, hj2⟩
          simp
          refine ⟨fun hlt => ?_, fun hge => ?_⟩
          · have hmid := mid_eq j m (by omega)
            have hd1 : j ≤ (j + m) / 2 := by omega
            have hd2 : (j + m) / 2 < m := by omega
            generalize (j + m) / 2 = q at hmid hd1 hd2
            have g1 : q < T.length := by omega
            have g2 : m < T.length := by omega
            have hc := hs q m (by omega) g2
            have hnn : ¬ cmpTone T[m] T[q] < 0 := by omega
            have w3 : IntKind.i64.wrap ((q : Int) + 1) = ((q + 1 : Nat) : Int) := by rw [w64 (by omega) (by omega)]; omega
            try simp at hmid
            simp [hmid, Tone.rows_len, Tone.row_get, g1, g2]
            refine CallZ.use0 (c_compareTones T[m] T[q]) rfl rfl ?_
            simp [hnn, w3, -Int.natCast_add]
            exact ⟨q + 1, Wk.weak (ρ := []) (φ := []) (by simp), by omega, by omega⟩
          · have hjm : j = m := by omega
            refine loop_upto hm 0 (fun _ => ⟨[(0, .sl 3 (Tone.rows T)), (1, .int .i64 a), (2, .int .i64 m), (3, .int .i64 b), (4, cmpTF), (14, .int .i64 m), (17, .int .i64 m)], []⟩) (fun _ => True) (by kernel_rfl) ?_ trivial (fun j hj _ => absurd hj (by omega)) (fun _ => ?_)
            · exact Wk.weak (ρ := []) (φ := []) (by simp [hjm])
            · simp
      · have c2' : ¬ (d2 : Int) = 1 := by omega
        have hmid := mid_eq a b (by omega)
        have hd1 : a < (a + b) / 2 := by omega
        have hd2 : (a + b) / 2 < b := by omega
        have hd3 : 2 * ((a + b) / 2) ≤ a + b := by omega
        have hd4 : a + b ≤ 2 * ((a + b) / 2) + 1 := by omega
        generalize (a + b) / 2 = q at hmid hd1 hd2 hd3 hd4
        try simp at hmid
        have w4 : IntKind.i64.wrap ((q : Int) + m) = ((q + m : Nat) : Int) := by rw [w64 (by omega) (by omega)]; omega
        have w5 : IntKind.i64.wrap (((q + m : Nat) : Int) - 1) = ((q + m - 1 : Nat) : Int) := by rw [w64 (by omega) (by omega)]; omega
        by_cases c3 : q < m
        · have w6 : IntKind.i64.wrap (((q + m : Nat) : Int) - b) = ((q + m - b : Nat) : Int) := by rw [w64 (by omega) (by omega)]; omega
          simp (maxSteps := 2000000) [w0, c1', w1, c2', hmid, w4, c3, w5, w6, -Int.natCast_add]
          refine loop_rule hm (ι := {j : Nat // q + m - b ≤ j ∧ j ≤ q}) (fun s => ⟨[(0, .sl 3 (Tone.rows T)), (1, .int .i64 a), (2, .int .i64 m), (3, .int .i64 b), (4, cmpTF), (18, .int .i64 q), (19, .int .i64 (q + m : Nat)), (20, .int .i64 s.1), (21, .int .i64 q), (22, .int .i64 (q + m - 1 : Nat))], []⟩) (fun s => q - s.1) (by kernel_rfl) ⟨q + m - b, by omega, by omega⟩ ?_ ?_
          · exact Wk.weak (ρ := []) (φ := []) (by simp)
          · rintro ⟨j, hj1, hj2⟩
            simp [-Int.natCast_add]
            refine ⟨fun hlt => ?_, fun hge => ?_⟩
            · have hmid2 := mid_eq j q (by omega)
              have he1 : j ≤ (j + q) / 2 := by omega
              have he2 : (j + q) / 2 < q := by omega
              generalize (j + q) / 2 = c at hmid2 he1 he2
              try simp at hmid2
              have w7 : IntKind.i64.wrap (((q + m - 1 : Nat) : Int) - c) = ((q + m - 1 - c : Nat) : Int) := by rw [w64 (by omega) (by omega)]; omega
              have g1 : c < T.length := by omega
              have g2 : q + m - 1 - c < T.length := by omega
              have hc := hs c (q + m - 1 - c) (by omega) g2
              have hnn : ¬ cmpTone T[q + m - 1 - c] T[c] < 0 := by omega
              have w3 : IntKind.i64.wrap ((c : Int) + 1) = ((c + 1 : Nat) : Int) := by rw [w64 (by omega) (by omega)]; omega
              simp [hmid2, w7, Tone.rows_len, Tone.row_get, g1, g2, -Int.natCast_add]
              refine CallZ.use0 (c_compareTones T[q + m - 1 - c] T[c]) rfl rfl ?_
              simp [hnn, w3, -Int.natCast_add]
              exact ⟨c + 1, Wk.weak (ρ := []) (φ := []) (by simp), by omega, by omega⟩
            · have hjq : j = q := by omega
              subst hjq
              have w8 : IntKind.i64.wrap (((j + m : Nat) : Int) - j) = (m : Int) := by rw [w64 (by omega) (by omega)]; omega
              simp [w8, c3, h2, -Int.natCast_add]
              refine CallZ.use0 (c_symT T hs hl N j m b (by omega) c3 h2 h3) rfl rfl ?_
              simp
        · simp (maxSteps := 2000000) [w0, c1', w1, c2', hmid, w4, c3, w5, -Int.natCast_add]
          refine loop_rule hm (ι := {j : Nat // a ≤ j ∧ j ≤ m}) (fun s => ⟨[(0, .sl 3 (Tone.rows T)), (1, .int .i64 a), (2, .int .i64 m), (3, .int .i64 b), (4, cmpTF), (18, .int .i64 q), (19, .int .i64 (q + m : Nat)), (20, .int .i64 s.1), (21, .int .i64 m), (22, .int .i64 (q + m - 1 : Nat))], []⟩) (fun s => m - s.1) (by kernel_rfl) ⟨a, by omega, by omega⟩ ?_ ?_
          · exact Wk.weak (ρ := []) (φ := []) (by simp)
          · rintro ⟨j, hj1, hj2⟩
            simp [-Int.natCast_add]
            refine ⟨fun hlt => ?_, fun hge => ?_⟩
            · have hmid2 := mid_eq j m (by omega)
              have he1 : j ≤ (j + m) / 2 := by omega
              have he2 : (j + m) / 2 < m := by omega
              generalize (j + m) / 2 = c at hmid2 he1 he2
              try simp at hmid2
              have w7 : IntKind.i64.wrap (((q + m - 1 : Nat) : Int) - c) = ((q + m - 1 - c : Nat) : Int) := by rw [w64 (by omega) (by omega)]; omega
              have g1 : c < T.length := by omega
              have g2 : q + m - 1 - c < T.length := by omega
              have hc := hs c (q + m - 1 - c) (by omega) g2
              have hnn : ¬ cmpTone T[q + m - 1 - c] T[c] < 0 := by omega
              have w3 : IntKind.i64.wrap ((c : Int) + 1) = ((c + 1 : Nat) : Int) := by rw [w64 (by omega) (by omega)]; omega
              simp [hmid2, w7, Tone.rows_len, Tone.row_get, g1, g2, -Int.natCast_add]
              refine CallZ.use0 (c_compareTones T[q + m - 1 - c] T[c]) rfl rfl ?_
              simp [hnn, w3, -Int.natCast_add]
              exact ⟨c + 1, Wk.weak (ρ := []) (φ := []) (by simp), by omega, by omega⟩
            · have hjq : j = m := by omega
              subst hjq
              have w8 : IntKind.i64.wrap (((q + j : Nat) : Int) - j) = (q : Int) := by rw [w64 (by omega) (by omega)]; omega
              by_cases c4 : j < q
              · simp [w8, c4, h1, -Int.natCast_add]
                refine CallZ.use0 (c_symT T hs hl N a j q (by omega) h1 c4 (by omega)) rfl rfl ?_
                simp
              · simp [w8, c4, h1, -Int.natCast_add]
end Go.Proofs.YtmdablalfmcgnaaGreat
