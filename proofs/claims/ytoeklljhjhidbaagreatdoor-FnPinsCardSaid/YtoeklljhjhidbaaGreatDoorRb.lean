/- Contracts: drums and pins that are drawn. No condition. -/
import Derived.Test.YtoeklljhjhidbaaGreatDoorIa
import Derived.Test.YtoeklljhjhidbaaGreatDoorNa
import Derived.Test.YtoeklljhjhidbaaGreatDoorAcn
namespace Go.Proofs.YtoeklljhjhidbaaGreatDoor
open Go Go.Ab
set_option maxRecDepth 100000

/-- A drum that is not great, a source. -/
def DrumI (a b m : Nat) (x : Drum × Src) : Prop := x.1.notes.length ≤ a ∧ x.1.pins.length ≤ b ∧ x.2.ok m
theorem flat_drum (d : Drum) : flatO d.objs := ⟨flat_intRows _, Pin.flat _, trivial⟩
set_option maxHeartbeats 8000000 in
theorem c_l28DrawOk [Go.Ab.Drwn] {m : Nat} {s : Src} (h : s.ok m) (hb : m + 200 ≤ 4611686018427387904) : GFn Tryz.prog 44 [.pb 0 0] [s.box] [0] (DrumI 10 20 (m + 200)) (fun x => .agg [.int .i64 x.1.steps, .int .i64 x.1.rest, .sf 1 1, .sf 2 2]) (fun x => [x.2.box, some (.arr 1 (intRows x.1.notes)), some (.arr 2 (Pin.rows x.1.pins))]) := by
  have k1 := c_pick h (by omega) 80
  obtain ⟨_, _, h1⟩ := h.pick (by omega) 80
  generalize s.pick 80 = a at k1 h1
  have k2 := c_among h1 (by omega) [1, 2, 4, 7] (by simp) (by simp)
  have h2 := h1.among (by omega) [1, 2, 4, 7]
  generalize a.2.among [1, 2, 4, 7] = b at k2 h2
  have k3 := c_pick h2 (by omega) 6
  obtain ⟨_, _, h3⟩ := h2.pick (by omega) 6
  generalize b.2.pick 6 = c at k3 h3
  have k4 := c_pick h3 (by omega) 5
  obtain ⟨p4, q4, h4⟩ := h3.pick (by omega) 5
  generalize c.2.pick 5 = d at k4 p4 q4 h4
  have q4 := q4 (by omega)
  obtain ⟨a1, a2⟩ := a
  obtain ⟨b1, b2⟩ := b
  obtain ⟨c1, c2⟩ := c
  obtain ⟨d1, d2⟩ := d
  simp only at k1 k2 k3 k4 h1 h2 h3 h4 p4 q4
  obtain ⟨K, rfl⟩ : ∃ K : Nat, d1 = K := ⟨d1.toNat, by omega⟩
  generalize hst : IntKind.i64.wrap (20 + a1) = st
  generalize hno : IntKind.i64.wrap (60 + c1) = no
  refine gfn_intro [0] hm Tryz.func44 (by kernel_rfl) rfl (by kernel_rfl) rfl (by simp) (by simp) ?_
  simp
  refine CallZ.useM [0] [] [] k1 (by simp) rfl rfl (by simp) rfl rfl rfl (.inl rfl) ?_
  simp [hst]
  refine CallZ.useM [0, 2] [] [] k2 (by simp [intRows]) rfl rfl (by simp) rfl rfl rfl (.inl rfl) ?_
  simp
  refine CallZ.useM [0] [] [] k3 (by simp) rfl rfl (by simp) rfl rfl rfl (.inl rfl) ?_
  simp [hno]
  refine CallZ.useM [0] [] [] k4 (by simp) rfl rfl (by simp) rfl rfl rfl (.inl rfl) ?_
  simp
  refine loop_uptoG hm K (fun i (y : List Int × Int × Src) => ⟨[(0, .pb 0 0), (2, .pb 1 0), (3, .pb 2 0), (4, .int .i64 y.2.1), (5, .int .i64 ((K : Int) - i)), (69, .own 0)], [y.2.2.box, some (.box [.int .i64 0, .int .i64 0, .nils, .nils]), some (.box [.int .i64 st, .int .i64 b1, .sf 3 1, .sf 4 2]), some (.arr 1 (intRows y.1)), some (.arr 2 (Pin.rows []))]⟩)
    (fun i y => y.1.length = i ∧ y.2.2.ok (m + 8 + 2 * i)) (by kernel_rfl) ⟨([], no, d2), ⟨rfl, h4⟩, ?_⟩ (fun i y hi hI => ?_) (fun y hI => ?_)
  · refine (weak_nilB 3 2 1 rfl rfl).trans ((weak_nilB 3 3 2 rfl rfl).trans (Wk.weak (ρ := [0, 1, 3, 4, 5]) (φ := []) ?_))
    simp [intRows, Pin.rows]
  · obtain ⟨L, n1, s1⟩ := y
    obtain ⟨i1, i2⟩ := hI
    simp only at i1 i2 ⊢
    have k5 := c_pick i2 (by omega) 4
    obtain ⟨_, _, h5⟩ := i2.pick (by omega) 4
    generalize s1.pick 4 = e at k5 h5 ⊢
    obtain ⟨e1, e2⟩ := e
    simp only at k5 h5
    have w1 : IntKind.i64.wrap ((K : Int) - i - 1) = (K : Int) - (i + 1) := by rw [w64 (by omega) (by omega)]; omega
    simp [show (i : Int) < K by omega, intRows_len, i1]
    refine ⟨by simp [rowsOne], by omega, by omega, ?_⟩
    refine CallZ.useM [0] [] [] k5 (by simp) rfl rfl (by simp) rfl rfl rfl (.inl rfl) ?_
    simp [w1]
    refine ⟨(L ++ [n1], IntKind.i64.wrap (n1 + e1), e2), ⟨by simp [i1], h5.mono (by omega) (by omega)⟩, Wk.weak (ρ := [0, 1, 2, 3, 4]) (φ := []) ?_⟩
    simp [intRows]
  · obtain ⟨L, n1, s1⟩ := y
    obtain ⟨i1, i2⟩ := hI
    simp only at i1 i2 ⊢
    have k6 := c_pick i2 (by omega) 14
    obtain ⟨p6, q6, h6⟩ := i2.pick (by omega) 14
    generalize s1.pick 14 = e at k6 p6 q6 h6 ⊢
    have q6 := q6 (by omega)
    obtain ⟨e1, e2⟩ := e
    simp only at k6 p6 q6 h6
    obtain ⟨J, rfl⟩ : ∃ J : Nat, e1 = J := ⟨e1.toNat, by omega⟩
    simp
    refine CallZ.useM [0] [] [] k6 (by simp) rfl rfl (by simp) rfl rfl rfl (.inl rfl) ?_
    simp
    refine loop_rule hm (ι := {y : Drum × Src × Nat // y.1.notes.length ≤ 10 ∧ y.1.pins.length + y.2.2 ≤ 14 ∧ y.2.1.ok (m + 20 + 4 * (14 - y.2.2)) ∧ y.2.2 ≤ 14}) (fun y => ⟨[(0, .pb 0 0), (2, .pb 1 0), (3, .pb 2 0), (6, .int .i64 y.1.2.2), (69, .own 0)], [y.1.2.1.box, some (.box [.int .i64 0, .int .i64 0, .nils, .nils]), some (.box [.int .i64 y.1.1.steps, .int .i64 y.1.1.rest, .sf 3 1, .sf 4 2]), some (.arr 1 (intRows y.1.1.notes)), some (.arr 2 (Pin.rows y.1.1.pins))]⟩) (fun y => y.1.2.2) (by kernel_rfl) ⟨(⟨st, b1, L, []⟩, e2, J), by simp only; omega, by simp only [List.length_nil]; omega, h6.mono (by omega) (by omega), by simp only; omega⟩ ?_ ?_
    · refine Wk.weak (ρ := [0, 1, 2, 3, 4]) (φ := []) ?_
      simp
    · rintro ⟨⟨D, s2, k⟩, i1, i2, i3, i4⟩
      simp only at i1 i2 i3 i4 ⊢
      by_cases hk : k = 0
      · subst hk
        simp
        refine ⟨(D, s2), ⟨i1, by simp only; omega, i3.mono (by omega) (by omega)⟩, Wk.weak (ρ := [0, 3, 4]) (φ := []) ?_⟩
        simp
      obtain ⟨k, rfl⟩ : ∃ k', k = k' + 1 := ⟨k - 1, by omega⟩
      by_cases hl : D.notes.length = 0
      · simp [intRows_len, hl]
        refine ⟨(D, s2), ⟨i1, by simp only; omega, i3.mono (by omega) (by omega)⟩, Wk.weak (ρ := [0, 3, 4]) (φ := []) ?_⟩
        simp
      have hl' : 0 < D.notes.length := by omega
      have hk' : (0 : Int) < (k : Int) + 1 := by omega
      have k7 := c_pick i3 (by omega) D.steps
      obtain ⟨_, _, h7⟩ := i3.pick (by omega) D.steps
      generalize s2.pick D.steps = f at k7 h7
      obtain ⟨f1, f2⟩ := f
      simp only at k7 h7
      have k8 := c_pick h7 (by omega) D.notes.length
      obtain ⟨_, _, h8⟩ := h7.pick (by omega) D.notes.length
      generalize f2.pick D.notes.length = g at k8 h8
      obtain ⟨g1, g2⟩ := g
      simp only at k8 h8
      simp [intRows_len, hl', hk']
      refine CallZ.useM [0] [] [] k7 (by simp) rfl rfl (by simp) rfl rfl rfl (.inl rfl) ?_
      simp [intRows_len]
      refine CallZ.useM [0] [] [] k8 (by simp) rfl rfl (by simp) rfl rfl rfl (.inl rfl) ?_
      simp
      have kA := c_spec_AddPin D ⟨f1, g1⟩ (by omega) (by omega)
      have hle := addD_le D ⟨f1, g1⟩
      simp [Drum.cells, Pin.cells] at kA
      refine CallZ.use kA rfl (.inr ⟨flat_intRows _, Pin.flat _, trivial⟩) rfl rfl ?_
      have w1 : IntKind.i64.wrap (k : Int) = (k : Int) := w64 (by omega) (by omega)
      simp [w1]
      refine ⟨fun hc => ?_, fun hc => ?_⟩
      · refine ⟨addD D ⟨f1, g1⟩, g2, k, Wk.weak (ρ := [0, 1, 2, 6, 7]) (φ := []) ?_, ⟨by omega, by omega, h8.mono (by omega) (by omega), by omega⟩, by omega⟩
        simp
      · refine ⟨D, g2, k, Wk.weak (ρ := [0, 1, 2, 3, 4]) (φ := []) ?_, ⟨by omega, by omega, h8.mono (by omega) (by omega), by omega⟩, by omega⟩
        simp
end Go.Proofs.YtoeklljhjhidbaaGreatDoor
