/- Contracts: drums and pins that are drawn, bent. No condition. -/
import Derived.Test.YtoeklljhjhidbaaGreatDoorRb
namespace Go.Proofs.YtoeklljhjhidbaaGreatDoor
open Go Go.Ab
set_option maxRecDepth 100000

theorem among_mem {m : Nat} {s : Src} (h : s.ok m) (hb : m + 2 ≤ 4611686018427387904) {l : List Int} (hl : 0 < l.length) : (s.among l).1 ∈ l := by
  obtain ⟨h1, h2, _⟩ := h.pick hb (l.length : Int)
  have h2 := h2 (by omega)
  have hi : (s.pick l.length).1.toNat < l.length := by omega
  unfold Src.among
  simp only
  rw [List.getD_eq_getElem?_getD, List.getElem?_eq_getElem hi]
  exact List.getElem_mem hi
set_option maxHeartbeats 8000000 in
theorem c_l28Draw [Go.Ab.Drwn] {m : Nat} {s : Src} (h : s.ok m) (hb : m + 300 ≤ 4611686018427387904) : GFn Tryz.prog 17 [.pb 0 0] [s.box] [0] (DrumI 40 300 (m + 300)) (fun x => .agg [.int .i64 x.1.steps, .int .i64 x.1.rest, .sf 1 1, .sf 2 2]) (fun x => [x.2.box, some (.arr 1 (intRows x.1.notes)), some (.arr 2 (Pin.rows x.1.pins))]) := by
  refine gfn_introL [8, 10] [0] hm Tryz.func17 (by kernel_rfl) rfl (by kernel_rfl) rfl (by simp) (by simp) ?_
  simp
  refine CallZ.useG [0] [] [] (c_l28DrawOk h (by omega)) (by simp) rfl (by simp) rfl (fun x _ => ⟨rfl, rfl, rfl, .inl rfl⟩) (fun x hx => ?_)
  obtain ⟨⟨st, re, L, P⟩, s1⟩ := x
  obtain ⟨hL, hP, h1⟩ := hx
  simp only at hL hP h1 ⊢
  have k2 := c_pick h1 (by omega) 22
  obtain ⟨p2, q2, h2⟩ := h1.pick (by omega) 22
  generalize s1.pick 22 = b at k2 p2 q2 h2
  obtain ⟨b1, b2⟩ := b
  simp only at k2 p2 q2 h2
  simp
  refine CallZ.useM [0] [] [] k2 (by simp) rfl rfl (by simp) rfl rfl rfl (.inl rfl) ?_
  simp
  refine ⟨fun g0 => ?_, fun g0 => ⟨fun g1 => ?_, fun g1 => ⟨fun g2 => ?_, fun g2 => ⟨fun g3 => ?_, fun g3 => ⟨fun g4 => ?_, fun g4 => ⟨fun g5 => ?_, fun g5 => ?_⟩⟩⟩⟩⟩⟩
  · have k3 := c_among h2 (by omega) [0, 4096, 4097, 1] (by simp) (by simp)
    have h3 := h2.among (by omega) [0, 4096, 4097, 1]
    generalize b2.among [0, 4096, 4097, 1] = c at k3 h3
    refine CallZ.useM [0, 5] [] [] k3 (by simp [intRows]) rfl rfl (by simp) rfl rfl rfl (.inl rfl) ?_
    simp
    refine ⟨(⟨c.1, re, L, P⟩, c.2), ⟨by simp only; omega, by simp only; omega, h3.mono (by omega) (by omega)⟩, Wk.weak (ρ := [0, 2, 3]) (φ := []) ?_⟩
    simp
  · have k3 := c_among h2 (by omega) [0, 100, 101] (by simp) (by simp)
    have h3 := h2.among (by omega) [0, 100, 101]
    generalize b2.among [0, 100, 101] = c at k3 h3
    refine CallZ.useM [0, 5] [] [] k3 (by simp [intRows]) rfl rfl (by simp) rfl rfl rfl (.inl rfl) ?_
    simp
    refine ⟨(⟨st, c.1, L, P⟩, c.2), ⟨by simp only; omega, by simp only; omega, h3.mono (by omega) (by omega)⟩, Wk.weak (ρ := [0, 2, 3]) (φ := []) ?_⟩
    simp
  · have k3 := c_among h2 (by omega) [0, 99, 100] (by simp) (by simp)
    have h3 := h2.among (by omega) [0, 99, 100]
    generalize b2.among [0, 99, 100] = c at k3 h3
    refine ends_late hm 4 [[0, 1], [0, 1], [0, 1]] (by kernel_rfl) ?_
    simp
    refine CallZ.useM [0, 5] [] [] k3 (by simp [intRows]) rfl rfl (by simp) rfl rfl rfl (.inl rfl) ?_
    simp [Pin.rows_len]
    refine ⟨by simp [rowsOne], by omega, by omega, (⟨st, re, L, P ++ [⟨c.1, 0⟩]⟩, c.2), ⟨by simp only; omega, by simp; omega, h3.mono (by omega) (by omega)⟩, Wk.weak (ρ := [0, 2, 3]) (φ := []) ?_⟩
    simp [Pin.rows, Pin.cells]
  · have k3 := c_among h2 (by omega) [127, 128, 5] (by simp) (by simp)
    have h3 := h2.among (by omega) [127, 128, 5]
    generalize b2.among [127, 128, 5] = c at k3 h3
    refine ends_late hm 4 [[0, 1], [0, 1]] (by kernel_rfl) ?_
    simp
    refine CallZ.useM [0, 5] [] [] k3 (by simp [intRows]) rfl rfl (by simp) rfl rfl rfl (.inl rfl) ?_
    simp [intRows_len]
    refine ⟨by simp [rowsOne], by omega, by omega, (⟨st, re, L ++ [c.1], P⟩, c.2), ⟨by simp; omega, by simp only; omega, h3.mono (by omega) (by omega)⟩, Wk.weak (ρ := [0, 2, 3]) (φ := []) ?_⟩
    simp [intRows]
  · have k3 := c_among h2 (by omega) [256, 257] (by simp) (by simp)
    have h3 := h2.among (by omega) [256, 257]
    have hmem := among_mem h2 (by omega) (l := [256, 257]) (by simp)
    generalize b2.among [256, 257] = c at k3 h3 hmem
    obtain ⟨c1, c2⟩ := c
    simp only at k3 h3
    obtain ⟨K, rfl, hK⟩ : ∃ K : Nat, c1 = K ∧ K ≤ 257 := ⟨c1.toNat, by simp at hmem; omega, by simp at hmem; omega⟩
    refine CallZ.useM [0, 5] [] [] k3 (by simp [intRows]) rfl rfl (by simp) rfl rfl rfl (.inl rfl) ?_
    simp
    refine loop_uptoG hm K (fun i (O : List Pin) => ⟨[(2, .pb 1 0), (3, .pb 2 0), (4, .int .i64 K), (5, .int .i64 i), (73, .own 0)], [c2.box, some (.box [.int .i64 0, .int .i64 0, .nils, .nils]), some (.box [.int .i64 4096, .int .i64 1, .sf 3 1, .sf 4 2]), some (.arr 1 (intRows [60])), some (.arr 2 (Pin.rows O))]⟩)
      (fun i O => O.length = i) (by kernel_rfl) ⟨[], rfl, ?_⟩ (fun i O hi hI => ?_) (fun O hI => ?_)
    · refine (weak_nilB 4 3 2 rfl rfl).trans (Wk.weak (ρ := [0, 1, 4, 6, 7]) (φ := []) ?_)
      simp [Pin.rows, intRows]
    · have w2 : IntKind.i64.wrap ((i : Int) + 1) = (i : Int) + 1 := w64 (by omega) (by omega)
      have w3 : IntKind.i64.wrap (3 * (i : Int)) = 3 * (i : Int) := w64 (by omega) (by omega)
      simp [Pin.rows_len, hI, hi, w2, w3]
      refine ⟨by simp [rowsOne], by omega, by omega, O ++ [⟨3 * i, 0⟩], by simp [hI], Wk.weak (ρ := [0, 1, 2, 3, 4]) (φ := []) ?_⟩
      simp [Pin.rows, Pin.cells]
    · simp
      refine ⟨(⟨4096, 1, [60], O⟩, c2), ⟨by simp, by simp only; omega, h3.mono (by omega) (by omega)⟩, Wk.weak (ρ := [0, 3, 4]) (φ := []) ?_⟩
      simp
  · have k3 := c_among h2 (by omega) [32, 33] (by simp) (by simp)
    have h3 := h2.among (by omega) [32, 33]
    have hmem := among_mem h2 (by omega) (l := [32, 33]) (by simp)
    generalize b2.among [32, 33] = c at k3 h3 hmem
    obtain ⟨c1, c2⟩ := c
    simp only at k3 h3
    obtain ⟨K, rfl, hK⟩ : ∃ K : Nat, c1 = K ∧ K ≤ 33 := ⟨c1.toNat, by simp at hmem; omega, by simp at hmem; omega⟩
    refine CallZ.useM [0, 5] [] [] k3 (by simp [intRows]) rfl rfl (by simp) rfl rfl rfl (.inl rfl) ?_
    simp
    refine ⟨by omega, by omega, (⟨5, 5, List.replicate K 0, []⟩, c2), ⟨by simp; omega, by simp, h3.mono (by omega) (by omega)⟩, (weak_nilA (t := 0) 3 2 rfl rfl).trans (Wk.weak (ρ := [0, 6, 7]) (φ := []) ?_)⟩
    simp [intRows, Pin.rows]
  · refine ⟨(⟨st, re, L, P⟩, b2), ⟨by simp only; omega, by simp only; omega, h2.mono (by omega) (by omega)⟩, Wk.weak (ρ := [0, 2, 3]) (φ := []) ?_⟩
    simp

theorem c_DrawTurnDrum [Go.Ab.Drwn] (code : List Int) (hc : ∀ c ∈ code, 0 ≤ c ∧ c < 256) (hl : code.length ≤ 9223372036854775807) : GFn Tryz.prog 5 [.sl 1 (byteRows code)] [] [] (fun x : Drum × Int => x.1.notes.length ≤ 40 ∧ x.1.pins.length ≤ 300) (fun x => .tup [.agg [.int .i64 x.1.steps, .int .i64 x.1.rest, .sf 0 1, .sf 1 2], .int .i64 x.2]) (fun x => x.1.objs) := by
  have h0 : (Src.mk code 0 0).ok 0 := ⟨hc, hl, by simp, by simp, by simp⟩
  refine gfn_intro [] hm Tryz.func5 (by kernel_rfl) rfl (by kernel_rfl) rfl (by simp) (by simp) ?_
  simp
  refine CallZ.useM [] [] [] (c_l00From code) (by simp) rfl rfl (by simp) rfl rfl rfl (.inl rfl) ?_
  simp
  refine CallZ.useG [1] [] [] (c_l28Draw h0 (by omega)) (by simp) rfl (by simp) rfl (fun x _ => ⟨rfl, rfl, rfl, .inl rfl⟩) (fun x hx => ?_)
  obtain ⟨⟨st, re, L, P⟩, s1⟩ := x
  obtain ⟨hL, hP, h1⟩ := hx
  simp only at hL hP h1 ⊢
  have k2 := c_pick h1 (by omega) 300
  obtain ⟨_, _, h2⟩ := h1.pick (by omega) 300
  generalize s1.pick 300 = b at k2 h2
  obtain ⟨b1, b2⟩ := b
  simp only at k2 h2
  have k3 := c_one h2 (by omega) 9
  obtain ⟨_, _, h3⟩ := h2.pick (by omega) 9
  generalize b2.pick 9 = c at k3 h3
  obtain ⟨c1, c2⟩ := c
  simp only at k3 h3
  have k4 := c_among h3 (by omega) [9223372036854775807, -9223372036854775808, st] (by simp) (by simp)
  have h4 := h3.among (by omega) [9223372036854775807, -9223372036854775808, st]
  generalize c2.among [9223372036854775807, -9223372036854775808, st] = d at k4 h4
  obtain ⟨d1, d2⟩ := d
  simp only at k4 h4
  simp
  refine CallZ.useM [1] [] [] k2 (by simp) rfl rfl (by simp) rfl rfl rfl (.inl rfl) ?_
  simp
  refine CallZ.useM [1] [] [] k3 (by simp) rfl rfl (by simp) rfl rfl rfl (.inl rfl) ?_
  simp
  refine ⟨fun _ => ?_, fun _ => ⟨(⟨st, re, L, P⟩, IntKind.i64.wrap (b1 - 150)), ⟨hL, hP⟩, Wk.weak (ρ := [2, 3]) (φ := []) (by simp)⟩⟩
  refine CallZ.useM [1, 5] [] [] k4 (by simp [intRows]) rfl rfl (by simp) rfl rfl rfl (.inl rfl) ?_
  simp
  exact ⟨(⟨st, re, L, P⟩, d1), ⟨hL, hP⟩, Wk.weak (ρ := [2, 3]) (φ := []) (by simp)⟩

/-- A drum, a pin, a source. -/
def DrumPinI (a b m : Nat) (x : Drum × Pin × Src) : Prop := x.1.notes.length ≤ a ∧ x.1.pins.length ≤ b ∧ x.2.2.ok m
theorem c_l28DrawPin [Go.Ab.Drwn] {m : Nat} {s : Src} (h : s.ok m) (hb : m + 400 ≤ 4611686018427387904) : GFn Tryz.prog 35 [.pb 0 0] [s.box] [0] (DrumPinI 40 300 (m + 400)) (fun x => .tup [.agg [.int .i64 x.1.steps, .int .i64 x.1.rest, .sf 1 1, .sf 2 2], .agg [.int .i64 x.2.1.step, .int .i64 x.2.1.hammer]]) (fun x => [x.2.2.box, some (.arr 1 (intRows x.1.notes)), some (.arr 2 (Pin.rows x.1.pins))]) := by
  refine gfn_introL [4, 7] [0] hm Tryz.func35 (by kernel_rfl) rfl (by kernel_rfl) rfl (by simp) (by simp) ?_
  simp
  refine CallZ.useG [0] [] [] (c_l28Draw h (by omega)) (by simp) rfl (by simp) rfl (fun x _ => ⟨rfl, rfl, rfl, .inl rfl⟩) (fun x hx => ?_)
  obtain ⟨⟨st, re, L, P⟩, s1⟩ := x
  obtain ⟨hL, hP, h1⟩ := hx
  simp only at hL hP h1 ⊢
  have k2 := c_one h1 (by omega) 3
  obtain ⟨_, _, h2⟩ := h1.pick (by omega) 3
  generalize s1.pick 3 = b at k2 h2
  obtain ⟨b1, b2⟩ := b
  simp only at k2 h2
  have tail : ∀ s2 : Src, s2.ok (m + 302) → ∃ e1 e2 : Int, ∃ s3 s4 : Src, s4.ok (m + 400) ∧ MFn Tryz.prog 18 [.pb 0 0, .int .i64 110] [s2.box] [0] (.int .i64 e1) [s3.box] ∧ MFn Tryz.prog 18 [.pb 0 0, .int .i64 6] [s3.box] [0] (.int .i64 e2) [s4.box] := fun s2 hs => by
    have k4 := c_pick hs (by omega) 110
    obtain ⟨_, _, h4⟩ := hs.pick (by omega) 110
    have k5 := c_pick h4 (by omega) 6
    obtain ⟨_, _, h5⟩ := h4.pick (by omega) 6
    exact ⟨_, _, _, _, h5.mono (by omega) (by omega), k4, k5⟩
  by_cases hP0 : P.length = 0
  · obtain ⟨e1, e2, s3, s4, h5, k4, k5⟩ := tail s1 (h1.mono (by omega) (by omega))
    simp [Pin.rows_len, hP0]
    refine CallY.use (res := .bool false) (fun h => by cases h) rfl rfl ?_
    simp
    refine CallZ.useM [0] [] [] k4 (by simp) rfl rfl (by simp) rfl rfl rfl (.inl rfl) ?_
    simp
    refine CallZ.useM [0] [] [] k5 (by simp) rfl rfl (by simp) rfl rfl rfl (.inl rfl) ?_
    simp
    refine ends_late hm 2 [[1], []] (by kernel_rfl) ?_
    simp
    refine ⟨(⟨st, re, L, P⟩, ⟨IntKind.i64.wrap (e1 - 2), IntKind.i64.wrap (e2 - 1)⟩, s4), ⟨hL, hP, h5⟩, Wk.weak (ρ := [0, 3, 4]) (φ := []) ?_⟩
    simp
  have hP1 : 0 < P.length := by omega
  simp [Pin.rows_len, hP1]
  refine CallY.useM [0] [] [] k2 (by simp) rfl rfl (by simp) rfl rfl rfl (.inl rfl) ?_
  simp
  refine ⟨fun _ => ?_, fun _ => ?_⟩
  · have k3 := c_pick h2 (by omega) P.length
    obtain ⟨p3, q3, h3⟩ := h2.pick (by omega) P.length
    generalize b2.pick P.length = d at k3 p3 q3 h3
    have q3 := q3 (by omega)
    obtain ⟨d1, d2⟩ := d
    simp only at k3 p3 q3 h3
    obtain ⟨j, rfl⟩ : ∃ j : Nat, d1 = j := ⟨d1.toNat, by omega⟩
    have hj : j < P.length := by omega
    simp [Pin.rows_len]
    refine CallZ.useM [0] [] [] k3 (by simp) rfl rfl (by simp) rfl rfl rfl (.inl rfl) ?_
    simp
    refine ends_late hm 6 [[1, 2, 3, 4, 5], []] (by kernel_rfl) ?_
    have hg : (Pin.rows P)[j]? = some [.int .i64 P[j].step, .int .i64 P[j].hammer] := by simp [Pin.rows, Pin.cells, hj]
    simp [Pin.row_getE, Pin.rows_len, hj]
    refine ⟨(⟨st, re, L, P⟩, P[j], d2), ⟨hL, hP, h3.mono (by omega) (by omega)⟩, Wk.weak (ρ := [0, 3, 4]) (φ := []) ?_⟩
    simp
  · obtain ⟨e1, e2, s3, s4, h5, k4, k5⟩ := tail b2 (h2.mono (by omega) (by omega))
    refine CallZ.useM [0] [] [] k4 (by simp) rfl rfl (by simp) rfl rfl rfl (.inl rfl) ?_
    simp
    refine CallZ.useM [0] [] [] k5 (by simp) rfl rfl (by simp) rfl rfl rfl (.inl rfl) ?_
    simp
    refine ends_late hm 2 [[1], []] (by kernel_rfl) ?_
    simp
    refine ⟨(⟨st, re, L, P⟩, ⟨IntKind.i64.wrap (e1 - 2), IntKind.i64.wrap (e2 - 1)⟩, s4), ⟨hL, hP, h5⟩, Wk.weak (ρ := [0, 3, 4]) (φ := []) ?_⟩
    simp
theorem c_DrawAddPin [Go.Ab.Drwn] (code : List Int) (hc : ∀ c ∈ code, 0 ≤ c ∧ c < 256) (hl : code.length ≤ 9223372036854775807) : GFn Tryz.prog 11 [.sl 1 (byteRows code)] [] [] (fun x : Drum × Pin => x.1.notes.length ≤ 40 ∧ x.1.pins.length ≤ 300) (fun x => .tup [.agg [.int .i64 x.1.steps, .int .i64 x.1.rest, .sf 0 1, .sf 1 2], .agg [.int .i64 x.2.step, .int .i64 x.2.hammer]]) (fun x => x.1.objs) := by
  have h0 : (Src.mk code 0 0).ok 0 := ⟨hc, hl, by simp, by simp, by simp⟩
  refine gfn_intro [] hm Tryz.func11 (by kernel_rfl) rfl (by kernel_rfl) rfl (by simp) (by simp) ?_
  simp
  refine CallZ.useM [] [] [] (c_l00From code) (by simp) rfl rfl (by simp) rfl rfl rfl (.inl rfl) ?_
  simp
  refine CallZ.useG [2] [] [] (c_l28DrawPin h0 (by omega)) (by simp) rfl (by simp) rfl (fun x _ => ⟨rfl, rfl, rfl, .inl rfl⟩) (fun x hx => ?_)
  obtain ⟨⟨st, re, L, P⟩, p, s1⟩ := x
  obtain ⟨hL, hP, h1⟩ := hx
  simp only at hL hP h1 ⊢
  simp
  refine ⟨(⟨st, re, L, P⟩, p), ⟨hL, hP⟩, Wk.weak (ρ := [3, 4]) (φ := []) ?_⟩
  simp
end Go.Proofs.YtoeklljhjhidbaaGreatDoor
