/- Contracts: tunes that are drawn. No condition. -/
import Derived.Test.YtmdablalfmcgnaaGreatUb
import Derived.Test.YtmdablalfmcgnaaGreatUc
import Derived.Test.YtmdablalfmcgnaaGreatNa
namespace Go.Proofs.YtmdablalfmcgnaaGreat
open Go Go.Ab
set_option maxRecDepth 100000

theorem c_l25Sorted (L : List Tone) (hl : L.length ≤ 1048576) : GFn Tryz.prog 79 [.sl 3 (Tone.rows L)] [] [] (fun M : List Tone => M.length = L.length) (fun _ => .sf 0 3) (fun M => [some (.arr 3 (Tone.rows M))]) := by
  refine gfn_intro [] hm Tryz.func79 (by kernel_rfl) rfl (by kernel_rfl) rfl (by simp) (by simp) ?_
  simp
  refine loop_uptoG hm L.length (fun i M => ⟨[(0, .sl 3 (Tone.rows L)), (3, .sf 0 3), (4, .int .i64 i)], [some (.arr 3 (Tone.rows M))]⟩) (fun i M => M.length = i) (by kernel_rfl) ⟨[], rfl, ?_⟩ (fun i M hi hM => ?_) (fun M hM => ?_)
  · refine (weak_nil (t := 3) (z := 3) rfl).trans (Wk.weak (ρ := [0]) (φ := []) ?_)
    simp [Tone.rows]
  · have w1 : IntKind.i64.wrap ((i : Int) + 1) = (i : Int) + 1 := w64 (by omega) (by omega)
    simp [Tone.rows_len, hi, hM]
    refine loop_exitG hm i (fun j (_ : Unit) => ⟨[(0, .sl 3 (Tone.rows L)), (3, .sf 0 3), (4, .int .i64 i), (5, .int .i64 ((i - j : Nat) : Int))], [some (.arr 3 (Tone.rows M))]⟩) (fun _ _ => True)
      2 (fun a : Nat => ⟨[(0, .sl 3 (Tone.rows L)), (3, .sf 0 3), (4, .int .i64 i), (5, .int .i64 a)], [some (.arr 3 (Tone.rows M))]⟩) (fun a => a ≤ i) (by kernel_rfl) ⟨(), trivial, ?_⟩ (fun j _ hj _ => ?_) (fun _ _ => ?_) (fun a ha => ?_)
    · refine Wk.weak (ρ := [0]) (φ := []) ?_
      simp
    · have w2 : IntKind.i64.wrap (((i - j : Nat) : Int) - 1) = ((i - (j + 1) : Nat) : Int) := by rw [w64 (by omega) (by omega)]; omega
      have g1 : (0 : Int) < ((i - j : Nat) : Int) := by omega
      have hj1 : i - (j + 1) < M.length := by omega
      have k1 := c_l25Before L[i] (M[i - (j + 1)]'hj1) (Tone.rows L) (Tone.rows M) i (i - (j + 1)) (by simp [Tone.rows, hi]) (by simp [Tone.rows, hj1])
      simp [w2, Tone.rows_len, hi, hM]
      refine ⟨fun _ => by omega, CallY.use (fun _ => ⟨rfl, k1⟩) rfl rfl ?_⟩
      have g2 : 0 < i - j := by omega
      simp [g2, w2]
      refine ⟨fun _ => ⟨(), trivial, Wk.weak (ρ := [0]) (φ := []) ?_⟩, fun _ => ⟨i - j, by omega, Wk.weak (ρ := [0]) (φ := []) ?_⟩⟩
      · simp
      · simp
    · simp
      refine CallY.use (res := .bool false) (fun h => by cases h) rfl rfl ?_
      simp
      refine ⟨0, by omega, Wk.weak (ρ := [0]) (φ := []) ?_⟩
      simp
    · have hA : List.take a (Tone.rows M) = Tone.rows (M.take a) := by simp [Tone.rows]
      have hB : List.take (i - a) (List.drop a (Tone.rows M)) = Tone.rows (M.drop a) := by
        rw [List.take_of_length_le (by simp [Tone.rows]; omega)]
        simp [Tone.rows]
      have hR : (Tone.rows L)[i]'(by rw [Tone.rows_len]; exact hi) = L[i].cells := by simp [Tone.rows]
      have hC : rowsOne [L[i].cells] := Tone.one [L[i]]
      simp [w1, Tone.rows_len, hi, hM, hA, hB, hR]
      refine ⟨ha, Tone.one _, by omega, by omega, ?_⟩
      simp [Tone.cells] at hC ⊢
      refine ⟨hC, by omega, by omega, ha, by omega, Tone.one _, by omega, by omega, M.take a ++ L[i] :: M.drop a, by simp; omega, Wk.weak (ρ := [1]) (φ := []) ?_⟩
      simp [Tone.rows, Tone.cells]
  · simp [Tone.rows_len]
    refine ⟨M, hM, Wk.weak (ρ := [0]) (φ := []) ?_⟩
    simp

/-- A tune, a source read up to m bytes. -/
def TuneI (k m : Nat) (x : Tune × Src) : Prop := x.1.tones.length ≤ k ∧ x.2.ok m
set_option maxHeartbeats 8000000 in
theorem c_l25Draw {m : Nat} {s : Src} (h : s.ok m) (hb : m + 100 ≤ 4611686018427387904) : GFn Tryz.prog 49 [.pb 0 0] [s.box] [0] (TuneI 9 (m + 100)) (fun x => .agg [.str x.1.name, .sf 1 3]) (fun x => [x.2.box, some (.arr 3 (Tone.rows x.1.tones))]) := by
  have k1 := c_textS h (by omega) [[115, 111, 110, 103], [114, 111, 117, 110, 100], [104, 121, 109, 110]] (by simp) (by simp)
  have h1 := h.text (by omega) [[115, 111, 110, 103], [114, 111, 117, 110, 100], [104, 121, 109, 110]]
  generalize s.text [[115, 111, 110, 103], [114, 111, 117, 110, 100], [104, 121, 109, 110]] = a at k1 h1
  have k2 := c_pick h1 (by omega) 20
  obtain ⟨p2, q2, h2⟩ := h1.pick (by omega) 20
  generalize a.2.pick 20 = b at k2 p2 q2 h2
  have k3 := c_pick h2 (by omega) 10
  obtain ⟨p3, q3, h3⟩ := h2.pick (by omega) 10
  generalize b.2.pick 10 = c at k3 p3 q3 h3
  have q2 := q2 (by omega)
  have q3 := q3 (by omega)
  obtain ⟨c1, c2⟩ := c
  obtain ⟨K, rfl⟩ : ∃ K : Nat, c1 = K := ⟨c1.toNat, by simp only at p3; omega⟩
  simp only at k3 h3 q3 p3
  obtain ⟨nm, a2⟩ := a
  obtain ⟨st, b2⟩ := b
  simp only at k1 k2 p2 q2 k3
  refine gfn_intro [0] hm Tryz.func49 (by kernel_rfl) rfl (by kernel_rfl) rfl (by simp) (by simp) ?_
  simp
  refine CallZ.useM [0, 2] [] [] k1 (by simp [strRows]) rfl rfl (by simp) rfl rfl rfl (.inl rfl) ?_
  simp
  refine CallZ.useM [0] [] [] k2 (by simp) rfl rfl (by simp) rfl rfl rfl (.inl rfl) ?_
  simp
  refine CallZ.useM [0] [] [] k3 (by simp) rfl rfl (by simp) rfl rfl rfl (.inl rfl) ?_
  simp
  refine loop_uptoG hm K (fun i (y : List Tone × Int × Src) => ⟨[(0, .pb 0 0), (2, .pb 1 0), (3, .pb 2 0), (4, .int .i64 y.2.1), (5, .int .i64 ((K : Int) - i)), (82, .own 0)], [y.2.2.box, some (.box [.str [], .nils]), some (.box [.str nm, .sf 3 3]), some (.arr 3 (Tone.rows y.1))]⟩)
    (fun i y => y.1.length = i ∧ 0 ≤ y.2.1 ∧ y.2.1 ≤ 20 + 30 * i ∧ y.2.2.ok (m + 6 + 6 * i)) (by kernel_rfl) ⟨([], st, c2), ⟨rfl, by omega, by simp only; omega, h3⟩, ?_⟩ (fun i y hi hI => ?_) (fun y hI => ?_)
  · refine (weak_nilB 3 1 3 rfl rfl).trans (Wk.weak (ρ := [0, 1, 3, 4]) (φ := []) ?_)
    simp [Tone.rows]
  · obtain ⟨T, start, s1⟩ := y
    obtain ⟨i1, i2, i3, i4⟩ := hI
    simp only at i1 i2 i3 i4 ⊢
    have k4 := c_pick i4 (by omega) 24
    obtain ⟨p4, q4, h4⟩ := i4.pick (by omega) 24
    generalize s1.pick 24 = d at k4 p4 q4 h4 ⊢
    have k5 := c_pick h4 (by omega) 40
    obtain ⟨p5, q5, h5⟩ := h4.pick (by omega) 40
    generalize d.2.pick 40 = e at k5 p5 q5 h5 ⊢
    have k6 := c_pick h5 (by omega) 30
    obtain ⟨p6, q6, h6⟩ := h5.pick (by omega) 30
    generalize e.2.pick 30 = f at k6 p6 q6 h6 ⊢
    have q6 := q6 (by omega)
    have w1 : IntKind.i64.wrap ((K : Int) - i - 1) = (K : Int) - (i + 1) := by rw [w64 (by omega) (by omega)]; omega
    have w2 : IntKind.i64.wrap (start + f.1) = start + f.1 := w64 (by omega) (by omega)
    have w3 : IntKind.i64.wrap (60 + d.1) = 60 + d.1 := w64 (by omega) (by have := q4 (by omega); omega)
    have w4 : IntKind.i64.wrap (1 + e.1) = 1 + e.1 := w64 (by omega) (by have := q5 (by omega); omega)
    simp [show (i : Int) < K by omega]
    refine CallZ.useM [0] [] [] k4 (by simp) rfl rfl (by simp) rfl rfl rfl (.inl rfl) ?_
    simp
    refine CallZ.useM [0] [] [] k5 (by simp) rfl rfl (by simp) rfl rfl rfl (.inl rfl) ?_
    simp [Tone.rows_len, i1]
    refine ⟨by simp [rowsOne], by omega, by omega, ?_⟩
    refine CallZ.useM [0] [] [] k6 (by simp) rfl rfl (by simp) rfl rfl rfl (.inl rfl) ?_
    simp [w1, w2, w3, w4]
    refine ⟨(T ++ [⟨60 + d.1, start, 1 + e.1⟩], start + f.1, f.2), ⟨by simp [i1], by simp only; omega, by simp only; omega, h6.mono (by omega) (by omega)⟩, Wk.weak (ρ := [0, 1, 2, 3]) (φ := []) ?_⟩
    simp [Tone.rows, Tone.cells]
  · obtain ⟨T, start, s1⟩ := y
    obtain ⟨i1, i2, i3, i4⟩ := hI
    simp only at i1 i2 i3 i4 ⊢
    simp
    refine CallZ.useG [] [3] [] (c_l25Sorted T (by omega)) (by simp) rfl (by simp) rfl (fun M _ => ⟨rfl, rfl, rfl, .inr ⟨rfl, by simp [Tone.rows, Tone.cells]⟩⟩) (fun M hM => ?_)
    simp
    refine loop_uptoG hm M.length (fun i (O : List Tone) => ⟨[(0, .pb 0 0), (2, .pb 1 0), (3, .pb 2 0), (7, .pb 4 0), (8, .int .i64 i), (82, .own 0)], [s1.box, some (.box [.str [], .nils]), some (.box [.str nm, .sf 3 3]), some (.arr 3 (Tone.rows M)), some (.box [.str nm, .sf 5 3]), some (.arr 3 (Tone.rows O))]⟩)
      (fun i O => O.length ≤ i) (by kernel_rfl) ⟨[], Nat.le_refl _, ?_⟩ (fun i O hi hI => ?_) (fun O hI => ?_)
    · refine (weak_nilB 5 1 3 rfl rfl).trans (Wk.weak (ρ := [0, 1, 2, 4, 5, 6]) (φ := []) ?_)
      simp [Tone.rows]
    · have w1 : IntKind.i64.wrap ((i : Int) + 1) = (i : Int) + 1 := w64 (by omega) (by omega)
      have hR : (Tone.rows M)[i]'(by rw [Tone.rows_len]; exact hi) = M[i].cells := by simp [Tone.rows]
      rcases Nat.eq_zero_or_pos O.length with h0 | h0
      · simp [Tone.rows_len, hi, h0]
        refine CallY.use (res := .bool false) (fun h => by cases h) rfl rfl ?_
        simp [Tone.rows_len, hi, h0, hR, Tone.cells, w1]
        refine ⟨by simp [rowsOne], rfl, O ++ [M[i]], by simp; omega, Wk.weak (ρ := [0, 1, 2, 3, 4, 5]) (φ := []) ?_⟩
        simp [Tone.rows, Tone.cells]
      · have hl1 : O.length - 1 < O.length := by omega
        have kB := c_l25Before (O[O.length - 1]'hl1) M[i] (Tone.rows O) (Tone.rows M) (O.length - 1) i (by simp [Tone.rows, hl1]) (by simp [Tone.rows, hi])
        have w2 : IntKind.i64.wrap ((O.length : Int) - 1) = ((O.length - 1 : Nat) : Int) := by rw [w64 (by omega) (by omega)]; omega
        have hne : ¬ O.length = 0 := by omega
        simp [Tone.rows_len, hi, w2, hne, hl1]
        refine CallY.use (fun _ => ⟨rfl, kB⟩) rfl rfl ?_
        simp [Tone.rows_len, hi, hR, Tone.cells, w1]
        refine ⟨fun _ => ⟨by simp [rowsOne], rfl, by omega, by omega, O ++ [M[i]], by simp; omega, Wk.weak (ρ := [0, 1, 2, 3, 4, 5]) (φ := []) ?_⟩, fun _ => ⟨O, by simp only; omega, Wk.weak (ρ := [0, 1, 2, 3, 4, 5]) (φ := []) ?_⟩⟩
        · simp [Tone.rows, Tone.cells]
        · simp
    · simp [Tone.rows_len]
      refine ⟨(⟨nm, O⟩, s1), ⟨by simp only; omega, i4.mono (by omega) (by omega)⟩, Wk.weak (ρ := [0, 5]) (φ := []) ?_⟩
      simp

theorem c_l01DrawName {m : Nat} {s : Src} (h : s.ok m) (hb : m + 2 ≤ 4611686018427387904) : GFn Tryz.prog 51 [.pb 0 0] [s.box] [0] (fun x : List UInt8 × Src => x.2.ok (m + 2)) (fun x => .str x.1) (fun x => [x.2.box]) := by
  have hn := h.text (by omega) [[97], [98], [99], [98, 101, 108, 108], [116, 101, 110, 111, 114, 55], [104, 117, 109], [120, 57], [97, 98, 99, 100, 101, 102, 103, 104, 105, 106], [97, 98, 99, 100, 101, 102, 103, 104, 105, 106, 107], [65], [], [49, 97], [97, 45, 98]]
  have kn := c_textS h (by omega) [[97], [98], [99], [98, 101, 108, 108], [116, 101, 110, 111, 114, 55], [104, 117, 109], [120, 57], [97, 98, 99, 100, 101, 102, 103, 104, 105, 106], [97, 98, 99, 100, 101, 102, 103, 104, 105, 106, 107], [65], [], [49, 97], [97, 45, 98]] (by simp) (by simp)
  generalize s.text [[97], [98], [99], [98, 101, 108, 108], [116, 101, 110, 111, 114, 55], [104, 117, 109], [120, 57], [97, 98, 99, 100, 101, 102, 103, 104, 105, 106], [97, 98, 99, 100, 101, 102, 103, 104, 105, 106, 107], [65], [], [49, 97], [97, 45, 98]] = a at hn kn
  refine gfn_intro [0] hm Tryz.func51 (by kernel_rfl) rfl (by kernel_rfl) rfl (by simp) (by simp) ?_
  simp
  refine CallZ.useM [0, 1] [] [] kn (by simp [strRows]) rfl rfl (by simp) rfl rfl rfl (.inl rfl) ?_
  simp
  refine ⟨a, hn, Wk.weak (ρ := [0]) (φ := []) ?_⟩
  simp

set_option maxHeartbeats 8000000 in
theorem c_l25Bent {m : Nat} {s : Src} (h : s.ok m) (hb : m + 200 ≤ 4611686018427387904) : GFn Tryz.prog 27 [.pb 0 0] [s.box] [0] (TuneI 200 (m + 200)) (fun x => .agg [.str x.1.name, .sf 1 3]) (fun x => [x.2.box, some (.arr 3 (Tone.rows x.1.tones))]) := by
  refine gfn_introL [6, 8] [0] hm Tryz.func27 (by kernel_rfl) rfl (by kernel_rfl) rfl (by simp) (by simp) ?_
  simp
  refine CallZ.useG [0] [] [] (c_l25Draw h (by omega)) (by simp) rfl (by simp) rfl (fun x _ => ⟨rfl, rfl, rfl, .inl rfl⟩) (fun x hx => ?_)
  obtain ⟨⟨nm, T⟩, s1⟩ := x
  obtain ⟨hT, h1⟩ := hx
  simp only at hT h1 ⊢
  have k2 := c_pick h1 (by omega) 20
  obtain ⟨p2, q2, h2⟩ := h1.pick (by omega) 20
  generalize s1.pick 20 = b at k2 p2 q2 h2
  obtain ⟨b1, b2⟩ := b
  simp only at k2 p2 q2 h2
  simp
  refine CallZ.useM [0] [] [] k2 (by simp) rfl rfl (by simp) rfl rfl rfl (.inl rfl) ?_
  simp
  refine ⟨fun g0 => ?_, fun g0 => ⟨fun g1 => ?_, fun g1 => ⟨fun g2 => ?_, fun g2 => ⟨fun g3 => ?_, fun g3 => ⟨fun g4 => ?_, fun g4 => ?_⟩⟩⟩⟩⟩
  · simp [Tone.rows_len]
    refine ⟨by simp [rowsOne], by omega, by omega, (⟨nm, T ++ [⟨5, 0, 1⟩]⟩, b2), ⟨by simp; omega, h2.mono (by omega) (by omega)⟩, Wk.weak (ρ := [0, 2]) (φ := []) ?_⟩
    simp [Tone.rows, Tone.cells]
  · have k3 := c_among h2 (by omega) [-1, 0, 127, 128] (by simp) (by simp)
    have h3 := h2.among (by omega) [-1, 0, 127, 128]
    generalize b2.among [-1, 0, 127, 128] = c at k3 h3
    refine ends_late hm 4 [[0, 1], [0, 1], [0, 1]] (by kernel_rfl) ?_
    simp
    refine CallZ.useM [0, 4] [] [] k3 (by simp [intRows]) rfl rfl (by simp) rfl rfl rfl (.inl rfl) ?_
    simp [Tone.rows_len]
    refine ⟨by simp [rowsOne], by omega, by omega, (⟨nm, T ++ [⟨c.1, 9000, 1⟩]⟩, c.2), ⟨by simp; omega, h3.mono (by omega) (by omega)⟩, Wk.weak (ρ := [0, 2]) (φ := []) ?_⟩
    simp [Tone.rows, Tone.cells]
  · have k3 := c_among h2 (by omega) [0, 11000, 11001] (by simp) (by simp)
    have h3 := h2.among (by omega) [0, 11000, 11001]
    generalize b2.among [0, 11000, 11001] = c at k3 h3
    refine ends_late hm 4 [[0, 1], [0, 1], [0, 1]] (by kernel_rfl) ?_
    simp
    refine CallZ.useM [0, 4] [] [] k3 (by simp [intRows]) rfl rfl (by simp) rfl rfl rfl (.inl rfl) ?_
    simp [Tone.rows_len]
    refine ⟨by simp [rowsOne], by omega, by omega, (⟨nm, T ++ [⟨60, 9000, c.1⟩]⟩, c.2), ⟨by simp; omega, h3.mono (by omega) (by omega)⟩, Wk.weak (ρ := [0, 2]) (φ := []) ?_⟩
    simp [Tone.rows, Tone.cells]
  · have k3 := c_pick h2 (by omega) 3
    obtain ⟨p3, q3, h3⟩ := h2.pick (by omega) 3
    generalize b2.pick 3 = c at k3 p3 q3 h3
    have q3 := q3 (by omega)
    obtain ⟨c1, c2⟩ := c
    obtain ⟨K, rfl⟩ : ∃ K : Nat, c1 = K := ⟨c1.toNat, by simp only at p3; omega⟩
    simp only at k3 p3 q3 h3
    have w1 : IntKind.i64.wrap (127 + (K : Int)) = ((127 + K : Nat) : Int) := by rw [w64 (by omega) (by omega)]; omega
    refine CallZ.useM [0] [] [] k3 (by simp) rfl rfl (by simp) rfl rfl rfl (.inl rfl) ?_
    simp [w1]
    refine loop_uptoG hm (127 + K) (fun i (O : List Tone) => ⟨[(2, .pb 1 0), (3, .pb 2 0), (4, .int .i64 ((127 + K : Nat) : Int)), (5, .int .i64 i), (66, .own 0)], [c2.box, some (.box [.str [], .nils]), some (.box [.str nm, .sf 3 3]), some (.arr 3 (Tone.rows O))]⟩)
      (fun i O => O.length = i) (by kernel_rfl) ⟨[], rfl, ?_⟩ (fun i O hi hI => ?_) (fun O hI => ?_)
    · refine (weak_nilB 3 1 3 rfl rfl).trans (Wk.weak (ρ := [0, 1, 3, 4]) (φ := []) ?_)
      simp [Tone.rows]
    · have w2 : IntKind.i64.wrap ((i : Int) + 1) = (i : Int) + 1 := w64 (by omega) (by omega)
      have w3 : IntKind.i64.wrap (3 * (i : Int)) = 3 * (i : Int) := w64 (by omega) (by omega)
      have g5 : (i : Int) < 127 + (K : Int) := by omega
      simp [Tone.rows_len, hI, g5, w2, w3]
      refine ⟨by simp [rowsOne], by omega, by omega, O ++ [⟨70, 3 * i, 2⟩], by simp [hI], Wk.weak (ρ := [0, 1, 2, 3]) (φ := []) ?_⟩
      simp [Tone.rows, Tone.cells]
    · simp
      refine ⟨(⟨nm, O⟩, c2), ⟨by simp only; omega, h3.mono (by omega) (by omega)⟩, Wk.weak (ρ := [0, 3]) (φ := []) ?_⟩
      simp
  · refine CallZ.useG [0] [] [] (c_l01DrawName h2 (by omega)) (by simp) rfl (by simp) rfl (fun x _ => ⟨rfl, rfl, rfl, .inl rfl⟩) (fun x hx => ?_)
    simp
    refine ⟨(⟨x.1, T⟩, x.2), ⟨by simp only; omega, Src.ok.mono hx (by omega) (by omega)⟩, Wk.weak (ρ := [0, 2]) (φ := []) ?_⟩
    simp
  · refine ⟨(⟨nm, T⟩, b2), ⟨by simp only; omega, h2.mono (by omega) (by omega)⟩, Wk.weak (ρ := [0, 2]) (φ := []) ?_⟩
    simp

theorem c_l28DrawTune {m : Nat} {s : Src} (h : s.ok m) (hb : m + 300 ≤ 4611686018427387904) : GFn Tryz.prog 11 [.pb 0 0] [s.box] [0] (fun x : Tune × Src × Int × Int => TuneI 200 (m + 300) (x.1, x.2.1)) (fun x => .tup [.agg [.str x.1.name, .sf 1 3], .int .i64 x.2.2.1, .int .i64 x.2.2.2]) (fun x => [x.2.1.box, some (.arr 3 (Tone.rows x.1.tones))]) := by
  refine gfn_introL [3] [0] hm Tryz.func11 (by kernel_rfl) rfl (by kernel_rfl) rfl (by simp) (by simp) ?_
  simp
  refine CallZ.useG [0] [] [] (c_l25Bent h (by omega)) (by simp) rfl (by simp) rfl (fun x _ => ⟨rfl, rfl, rfl, .inl rfl⟩) (fun x hx => ?_)
  obtain ⟨⟨nm, T⟩, s1⟩ := x
  obtain ⟨hT, h1⟩ := hx
  simp only at hT h1 ⊢
  simp
  have k2 := c_among h1 (by omega) [1, 2, 5, 10, 20, 1000, 1001, 0] (by simp) (by simp)
  have h2 := h1.among (by omega) [1, 2, 5, 10, 20, 1000, 1001, 0]
  generalize s1.among [1, 2, 5, 10, 20, 1000, 1001, 0] = a at k2 h2
  refine CallZ.useM [0, 4] [] [] k2 (by simp [intRows]) rfl rfl (by simp) rfl rfl rfl (.inl rfl) ?_
  simp
  have k3 := c_among h2 (by omega) [1, 2, 3, 8, 20, 100, 101, 0] (by simp) (by simp)
  have h3 := h2.among (by omega) [1, 2, 3, 8, 20, 100, 101, 0]
  generalize a.2.among [1, 2, 3, 8, 20, 100, 101, 0] = b at k3 h3
  refine ends_late hm 4 [[0, 1], [1]] (by kernel_rfl) ?_
  simp
  refine CallZ.useM [0, 5] [] [] k3 (by simp [intRows]) rfl rfl (by simp) rfl rfl rfl (.inl rfl) ?_
  simp
  refine ⟨(⟨nm, T⟩, b.2, a.1, b.1), ⟨hT, h3.mono (by omega) (by omega)⟩, Wk.weak (ρ := [0, 2]) (φ := []) ?_⟩
  simp

theorem c_DrawDrumOf (code : List Int) (hc : ∀ c ∈ code, 0 ≤ c ∧ c < 256) (hl : code.length ≤ 9223372036854775807) : GFn Tryz.prog 5 [.sl 1 (byteRows code)] [] [] (fun x : Tune × Int × Int => x.1.tones.length ≤ 200) (fun x => .tup [.agg [.str x.1.name, .sf 0 3], .int .i64 x.2.1, .int .i64 x.2.2]) (fun x => [some (.arr 3 (Tone.rows x.1.tones))]) := by
  have h0 : (Src.mk code 0 0).ok 0 := ⟨hc, hl, by simp, by simp, by simp⟩
  refine gfn_intro [] hm Tryz.func5 (by kernel_rfl) rfl (by kernel_rfl) rfl (by simp) (by simp) ?_
  simp
  refine CallZ.useM [] [] [] (c_l00From code) (by simp) rfl rfl (by simp) rfl rfl rfl (.inl rfl) ?_
  simp
  refine CallZ.useG [1] [] [] (c_l28DrawTune h0 (by omega)) (by simp) rfl (by simp) rfl (fun x _ => ⟨rfl, rfl, rfl, .inl rfl⟩) (fun x hx => ?_)
  simp
  refine ⟨(x.1, x.2.2), hx.1, Wk.weak (ρ := [2]) (φ := []) ?_⟩
  simp
end Go.Proofs.YtmdablalfmcgnaaGreat
