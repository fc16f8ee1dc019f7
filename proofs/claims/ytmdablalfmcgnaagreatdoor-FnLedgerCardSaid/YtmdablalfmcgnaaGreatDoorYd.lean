/- Contracts: ledgers saved by the reference. No condition.; Contracts: ledgers that are drawn. No condition. -/
import Derived.Test.YtmdablalfmcgnaaGreatDoorYb
import Derived.Test.YtmdablalfmcgnaaGreatDoorNa
import Derived.Test.YtmdablalfmcgnaaGreatDoorOl
-- from Yd
namespace Go.Proofs.YtmdablalfmcgnaaGreatDoor
open Go Go.Ab
set_option maxRecDepth 100000

theorem Src.text_mem {m : Nat} {s : Src} (h : s.ok m) (hb : m + 2 ≤ 4611686018427387904) {l : List (List UInt8)} (hl : 0 < l.length) : (s.text l).1 ∈ l := by
  obtain ⟨h1, h2, _⟩ := h.pick hb (l.length : Int)
  have h2 := h2 (by omega)
  have hi : (s.pick l.length).1.toNat < l.length := by omega
  unfold Src.text
  simp only [List.getD_eq_getElem?_getD, List.getElem?_eq_getElem hi, Option.getD_some]
  exact List.getElem_mem hi
theorem Src.among_mem {m : Nat} {s : Src} (h : s.ok m) (hb : m + 2 ≤ 4611686018427387904) {l : List Int} (hl : 0 < l.length) : (s.among l).1 ∈ l := by
  obtain ⟨h1, h2, _⟩ := h.pick hb (l.length : Int)
  have h2 := h2 (by omega)
  have hi : (s.pick l.length).1.toNat < l.length := by omega
  unfold Src.among
  simp only [List.getD_eq_getElem?_getD, List.getElem?_eq_getElem hi, Option.getD_some]
  exact List.getElem_mem hi

def keysA : List (List UInt8) := [[97], [98], [98, 101, 108, 108], [116, 117, 110, 101], [122, 57]]
def textsA : List (List UInt8) := [[], [120], [116, 119, 111, 32, 119, 111, 114, 100, 115], [32, 108, 101, 97, 100], [53], [126]]
def textsB : List (List UInt8) := [[97, 10, 98], [49, 50, 51, 52, 53, 54, 55, 56, 57, 48, 49, 50, 51, 52, 53, 54, 55, 56, 57, 48, 49, 50, 51, 52, 53, 54, 55, 56, 57, 48, 49, 50, 51, 52, 53, 54, 55, 56, 57, 48, 49, 50, 51, 52, 53, 54, 55, 56, 57, 48, 49, 50, 51, 52, 53, 54, 55, 56, 57, 48], [49, 50, 51, 52, 53, 54, 55, 56, 57, 48, 49, 50, 51, 52, 53, 54, 55, 56, 57, 48, 49, 50, 51, 52, 53, 54, 55, 56, 57, 48, 49, 50, 51, 52, 53, 54, 55, 56, 57, 48, 49, 50, 51, 52, 53, 54, 55, 56, 57, 48, 49, 50, 51, 52, 53, 54, 55, 56, 57, 48, 49], [127]]
theorem textsB_len : ∀ k ∈ textsB, k.length ≤ 61 := by decide
theorem keysA_ok : ∀ k ∈ keysA, isName k = true := by decide
theorem textsA_ok : ∀ k ∈ textsA, isRemark k = true := by decide
/-- A record that is drawn, its texts short. -/
def RecI (m : Nat) (x : Record × Src) : Prop := x.2.ok m ∧ x.1.key.length ≤ 70 ∧ x.1.text.length ≤ 70 ∧ 0 ≤ x.1.kind ∧ x.1.kind ≤ 9
theorem RecI.wf {m : Nat} {x : Record × Src} (h : RecI m x) : x.1.wf := by
  obtain ⟨_, h1, h2, h3, h4⟩ := h
  unfold Record.wf
  omega
set_option maxHeartbeats 2000000 in
theorem c_l30DrawOne {m : Nat} {s : Src} (h : s.ok m) (hb : m + 10 ≤ 4611686018427387904) : GFn Tryz.prog 36 [.pb 0 0] [s.box] [0] (fun x : Record × Src => RecI (m + 6) x ∧ validRecord x.1 = true) (fun x => .agg x.1.cells) (fun x => [x.2.box]) := by
  have k1 := c_textS h (by omega) keysA (by simp [keysA]) (by simp [keysA])
  have m1 := keysA_ok _ (Src.text_mem h (by omega) (l := keysA) (by simp [keysA]))
  have h1 := h.text (by omega) keysA
  generalize s.text keysA = a at k1 h1 m1
  have k2 := c_pick h1 (by omega) 5
  obtain ⟨p2, q2, h2⟩ := h1.pick (by omega) 5
  generalize a.2.pick 5 = b at k2 p2 q2 h2
  have k3 := c_textS h2 (by omega) textsA (by simp [textsA]) (by simp [textsA])
  have m3 := textsA_ok _ (Src.text_mem h2 (by omega) (l := textsA) (by simp [textsA]))
  have h3 := h2.text (by omega) textsA
  generalize b.2.text textsA = c at k3 h3 m3
  have l1 : a.1.length ≤ 10 := by
    unfold isName at m1
    simp only [Bool.and_eq_true, decide_eq_true_eq] at m1
    omega
  have l3 : c.1.length ≤ 60 := by
    unfold isRemark at m3
    simp only [Bool.and_eq_true, decide_eq_true_eq] at m3
    omega
  refine gfn_intro [0] hm Tryz.func36 (by kernel_rfl) rfl (by kernel_rfl) rfl (by simp) (by simp) ?_
  simp
  refine CallZ.useM [0, 2] [] [] k1 (by simp [strRows, keysA]) rfl rfl (by simp) rfl rfl rfl (.inl rfl) ?_
  simp
  refine CallZ.useM [0] [] [] k2 (by simp) rfl rfl (by simp) rfl rfl rfl (.inl rfl) ?_
  simp
  refine ⟨fun g0 => ?_, fun g0 => ⟨fun g1 => ?_, fun g1 => ?_⟩⟩
  · refine ⟨(⟨3, [], []⟩, b.2), ⟨⟨h2.mono (by omega) (by omega), by simp, by simp, by simp, by simp⟩, validUndo⟩, Wk.weak (ρ := [0]) (φ := []) ?_⟩
    simp [Record.cells]
  · refine ⟨(⟨2, a.1, []⟩, b.2), ⟨⟨h2.mono (by omega) (by omega), by simp only; omega, by simp, by simp, by simp⟩, by simp [validRecord, m1]⟩, Wk.weak (ρ := [0]) (φ := []) ?_⟩
    simp [Record.cells]
  · refine CallZ.useM [0, 3] [] [] k3 (by simp [strRows, textsA]) rfl rfl (by simp) rfl rfl rfl (.inl rfl) ?_
    simp
    refine ⟨(⟨1, a.1, c.1⟩, c.2), ⟨⟨h3.mono (by omega) (by omega), by simp only; omega, by simp only; omega, by simp, by simp⟩, by simp [validRecord, m1, m3]⟩, Wk.weak (ρ := [0]) (φ := []) ?_⟩
    simp [Record.cells]
set_option maxHeartbeats 2000000 in
theorem c_l30Bend {m : Nat} {s : Src} (h : s.ok m) (hb : m + 10 ≤ 4611686018427387904) (r : Record) (hr : r.key.length ≤ 70 ∧ r.text.length ≤ 70 ∧ 0 ≤ r.kind ∧ r.kind ≤ 9) :
    GFn Tryz.prog 35 [.pb 0 0, .agg r.cells] [s.box] [0] (RecI (m + 6)) (fun x => .agg x.1.cells) (fun x => [x.2.box]) := by
  have k1 := c_pick h (by omega) 16
  obtain ⟨p1, q1, h1⟩ := h.pick (by omega) 16
  generalize s.pick 16 = a at k1 p1 q1 h1
  refine gfn_intro [0] hm Tryz.func35 (by kernel_rfl) rfl (by kernel_rfl) rfl (by simp) (by simp) ?_
  simp [Record.cells]
  refine CallZ.useM [0] [] [] k1 (by simp) rfl rfl (by simp) rfl rfl rfl (.inl rfl) ?_
  simp
  refine ⟨fun g0 => ?_, fun g0 => ⟨fun g1 => ?_, fun g1 => ⟨fun g2 => ?_, fun g2 => ?_⟩⟩⟩
  · have k2 := c_among h1 (by omega) [0, 4, 3] (by simp) (by simp)
    have m2 := Src.among_mem h1 (by omega) (l := [0, 4, 3]) (by simp)
    have h2 := h1.among (by omega) [0, 4, 3]
    generalize a.2.among [0, 4, 3] = b at k2 m2 h2
    refine CallZ.useM [0, 3] [] [] k2 (by simp [intRows]) rfl rfl (by simp) rfl rfl rfl (.inl rfl) ?_
    simp at m2
    simp
    refine ⟨(⟨b.1, r.key, r.text⟩, b.2), ⟨h2.mono (by omega) (by omega), hr.1, hr.2.1, by simp only; omega, by simp only; omega⟩, Wk.weak (ρ := [0]) (φ := []) ?_⟩
    simp
  · have k2 := c_textS h1 (by omega) [[], [65], [113]] (by simp) (by simp)
    have m2 := Src.text_mem h1 (by omega) (l := [[], [65], [113]]) (by simp)
    have h2 := h1.text (by omega) [[], [65], [113]]
    generalize a.2.text [[], [65], [113]] = b at k2 m2 h2
    refine CallZ.useM [0, 3] [] [] k2 (by simp [strRows]) rfl rfl (by simp) rfl rfl rfl (.inl rfl) ?_
    have m3 : b.1.length ≤ 1 := by
      simp at m2
      rcases m2 with e | e | e <;> simp [e]
    simp
    refine ⟨(⟨r.kind, b.1, r.text⟩, b.2), ⟨h2.mono (by omega) (by omega), by simp only; omega, hr.2.1, hr.2.2⟩, Wk.weak (ρ := [0]) (φ := []) ?_⟩
    simp
  · have k2 := c_textS h1 (by omega) textsB (by simp [textsB]) (by simp [textsB])
    have m2 := textsB_len _ (Src.text_mem h1 (by omega) (l := textsB) (by simp [textsB]))
    have h2 := h1.text (by omega) textsB
    generalize a.2.text textsB = b at k2 m2 h2
    refine CallZ.useM [0, 3] [] [] k2 (by simp [strRows, textsB]) rfl rfl (by simp) rfl rfl rfl (.inl rfl) ?_
    simp
    refine ⟨(⟨r.kind, r.key, b.1⟩, b.2), ⟨h2.mono (by omega) (by omega), hr.1, by simp only; omega, hr.2.2⟩, Wk.weak (ρ := [0]) (φ := []) ?_⟩
    simp
  · refine ⟨(r, a.2), ⟨h1.mono (by omega) (by omega), hr⟩, Wk.weak (ρ := [0]) (φ := []) ?_⟩
    simp

/-- A ledger that is drawn, of short texts, and a source. -/
def LedI (k m : Nat) (x : List Record × Src) : Prop := x.2.ok m ∧ x.1.length ≤ k ∧ ∀ r ∈ x.1, r.key.length ≤ 70 ∧ r.text.length ≤ 70 ∧ 0 ≤ r.kind ∧ r.kind ≤ 9
set_option maxHeartbeats 2000000 in
theorem c_l30DrawOk {m : Nat} {s : Src} (h : s.ok m) (hb : m + 100 ≤ 4611686018427387904) : GFn Tryz.prog 53 [.pb 0 0] [s.box] [0] (fun x : List Record × Src => LedI 9 (m + 80) x ∧ ledgerOk x.1 = true) (fun _ => .sf 1 3) (fun x => [x.2.box, some (.arr 3 (Record.rows x.1))]) := by
  have k1 := c_pick h (by omega) 10
  obtain ⟨p1, q1, h1⟩ := h.pick (by omega) 10
  generalize s.pick 10 = a at k1 p1 q1 h1
  have q1 := q1 (by omega)
  obtain ⟨a1, a2⟩ := a
  obtain ⟨K, rfl⟩ : ∃ K : Nat, a1 = K := ⟨a1.toNat, by simp only at p1; omega⟩
  simp only at k1 h1 q1
  refine gfn_intro [0] hm Tryz.func53 (by kernel_rfl) rfl (by kernel_rfl) rfl (by simp) (by simp) ?_
  simp
  refine CallZ.useM [0] [] [] k1 (by simp) rfl rfl (by simp) rfl rfl rfl (.inl rfl) ?_
  simp
  refine loop_uptoG hm K (fun i (y : List Record × Src) => ⟨[(0, .pb 0 0), (3, .sf 1 3), (4, .int .i64 ((K : Int) - i)), (25, .own 0)], [y.2.box, some (.arr 3 (Record.rows y.1))]⟩)
    (fun i y => LedI i (m + 2 + 6 * i) y ∧ ledgerOk y.1 = true) (by kernel_rfl) ⟨([], a2), ⟨⟨h1, by simp, by simp⟩, show ledgerOk [] = true by decide⟩, ?_⟩ (fun i y hi hI => ?_) (fun y hI => ?_)
  · refine (weak_nil (t := 3) (z := 3) rfl).trans (Wk.weak (ρ := [0, 1]) (φ := []) ?_)
    simp [Record.rows]
  · obtain ⟨L, s1⟩ := y
    obtain ⟨⟨i1, i2, i3⟩, i4⟩ := hI
    simp only at i1 i2 i3 i4 ⊢
    have w1 : IntKind.i64.wrap ((K : Int) - (i : Int) - 1) = (K : Int) - ((i : Int) + 1) := by rw [w64 (by omega) (by omega)]; omega
    simp [show (i : Int) < K by omega]
    refine CallZ.useG [0] [] [] (c_l30DrawOne i1 (by omega)) (by simp) rfl (by simp) rfl (fun x _ => ⟨rfl, rfl, rfl, .inl rfl⟩) (fun x hx => ?_)
    obtain ⟨r, s2⟩ := x
    obtain ⟨⟨x1, x2, x3, x4, x5⟩, x6⟩ := hx
    simp only at x1 x2 x3 x4 x5 x6 ⊢
    simp [Record.cells]
    have kA := c_l30Add L r (by omega) i4 x6
    simp only [Record.cells] at kA
    refine CallZ.use kA rfl (.inr ⟨Record.flat _, trivial⟩) rfl rfl ?_
    simp
    refine ⟨fun hc => ?_, fun hc => ?_⟩
    · obtain ⟨v1, v2⟩ := ledger_snoc hc
      refine ⟨(L ++ [r], s2), ⟨⟨x1.mono (by omega) (by omega), by simp; omega, fun y hy => ?_⟩, v1⟩, Wk.weak (ρ := [0, 2]) (φ := []) ?_⟩
      · rcases List.mem_append.1 hy with hy | hy
        · exact i3 y hy
        · rw [List.mem_singleton] at hy
          subst hy
          exact ⟨x2, x3, x4, x5⟩
      · simp [v2, w1]
    · refine ⟨(L, s2), ⟨⟨x1.mono (by omega) (by omega), by simp only; omega, i3⟩, i4⟩, Wk.weak (ρ := [0, 1]) (φ := []) ?_⟩
      simp [w1]
  · obtain ⟨L, s1⟩ := y
    obtain ⟨⟨i1, i2, i3⟩, i4⟩ := hI
    simp only at i1 i2 i3 i4 ⊢
    simp
    refine ⟨(L, s1), ⟨⟨i1.mono (by omega) (by omega), by simp only; omega, i3⟩, i4⟩, Wk.weak (ρ := [0, 1]) (φ := []) ?_⟩
    simp

set_option maxHeartbeats 4000000 in
theorem c_l30Draw {m : Nat} {s : Src} (h : s.ok m) (hb : m + 200 ≤ 4611686018427387904) : GFn Tryz.prog 34 [.pb 0 0] [s.box] [0] (LedI 33 (m + 120)) (fun _ => .sf 1 3) (fun x => [x.2.box, some (.arr 3 (Record.rows x.1))]) := by
  refine gfn_intro [0] hm Tryz.func34 (by kernel_rfl) rfl (by kernel_rfl) rfl (by simp) (by simp) ?_
  simp
  refine CallZ.useG [0] [] [] (c_l30DrawOk h (by omega)) (by simp) rfl (by simp) rfl (fun x _ => ⟨rfl, rfl, rfl, .inl rfl⟩) (fun x hx => ?_)
  obtain ⟨L, s1⟩ := x
  obtain ⟨⟨i1, i2, i3⟩, i4⟩ := hx
  simp only at i1 i2 i3 i4 ⊢
  simp
  have k1 := c_one i1 (by omega) 8
  obtain ⟨_, _, h1⟩ := i1.pick (by omega) 8
  generalize s1.pick 8 = a at k1 h1
  refine CallZ.useM [0] [] [] k1 (by simp) rfl rfl (by simp) rfl rfl rfl (.inl rfl) ?_
  simp
  refine ⟨fun _ => ?_, fun _ => ?_⟩
  · refine CallZ.useG [0] [] [] (c_l30DrawOne h1 (by omega)) (by simp) rfl (by simp) rfl (fun x _ => ⟨rfl, rfl, rfl, .inl rfl⟩) (fun x hx => ?_)
    obtain ⟨r, s2⟩ := x
    obtain ⟨⟨x1, x2⟩, _⟩ := hx
    simp only at x1 x2 ⊢
    simp [Record.cells]
    have kB := c_l30Bend x1 (by omega) r x2
    simp only [Record.cells] at kB
    refine CallZ.useG [0] [] [] kB (by simp) rfl (by simp) rfl (fun x _ => ⟨rfl, rfl, rfl, .inl rfl⟩) (fun x hx => ?_)
    obtain ⟨r', s3⟩ := x
    obtain ⟨y1, y2⟩ := hx
    simp only at y1 y2 ⊢
    simp [Record.rows_len]
    refine ⟨by simp [rowsOne], by omega, by omega, ?_⟩
    have hM : ∀ y ∈ L ++ [r'], y.key.length ≤ 70 ∧ y.text.length ≤ 70 ∧ 0 ≤ y.kind ∧ y.kind ≤ 9 := fun y hy => by
      rcases List.mem_append.1 hy with hy | hy
      · exact i3 y hy
      · rw [List.mem_singleton] at hy
        subst hy
        exact y2
    have hR : Record.rows L ++ [[.int .i64 r'.kind, .str r'.key, .str r'.text]] = Record.rows (L ++ [r']) := by simp [Record.rows, Record.cells]
    have k2 := c_one y1 (by omega) 24
    obtain ⟨_, _, h2⟩ := Src.ok.pick y1 (by omega) 24
    generalize s3.pick 24 = b at k2 h2
    refine CallZ.useM [0] [] [] k2 (by simp) rfl rfl (by simp) rfl rfl rfl (.inl rfl) ?_
    simp
    refine ⟨fun _ => ?_, fun _ => ?_⟩
    · have k3 := c_among h2 (by omega) [32, 33] (by simp) (by simp)
      have m3 := Src.among_mem h2 (by omega) (l := [32, 33]) (by simp)
      have h3 := h2.among (by omega) [32, 33]
      generalize b.2.among [32, 33] = c at k3 m3 h3
      obtain ⟨c1, c2⟩ := c
      simp at m3
      obtain ⟨K, hK, hK2⟩ : ∃ K : Nat, c1 = K ∧ K ≤ 33 := ⟨c1.toNat, by omega, by omega⟩
      subst hK
      simp only at k3 h3
      refine CallZ.useM [0, 3] [] [] k3 (by simp [intRows]) rfl rfl (by simp) rfl rfl rfl (.inl rfl) ?_
      simp
      refine loop_uptoG hm K (fun i (M : List Record) => ⟨[(0, .pb 0 0), (3, .sf 1 3), (4, .int .i64 K), (5, .int .i64 i), (39, .own 0)], [c2.box, some (.arr 3 (Record.rows M))]⟩)
        (fun i M => M.length = i ∧ ∀ r ∈ M, r.key.length ≤ 70 ∧ r.text.length ≤ 70 ∧ 0 ≤ r.kind ∧ r.kind ≤ 9) (by kernel_rfl) ⟨[], ⟨rfl, by simp⟩, ?_⟩ (fun i M hi hI => ?_) (fun M hI => ?_)
      · refine (weak_nil (t := 3) (z := 3) rfl).trans (Wk.weak (ρ := [0, 4]) (φ := []) ?_)
        simp [Record.rows]
      · have w1 : IntKind.i64.wrap ((i : Int) + 1) = (i : Int) + 1 := w64 (by omega) (by omega)
        obtain ⟨hM1, hM2⟩ := hI
        simp [show (i : Int) < K by omega, w1, Record.rows_len, hM1]
        have hu : IntKind.u8.wrap (IntKind.i64.wrap (65 + (i : Int).tmod 26)) = IntKind.i64.wrap (65 + (i : Int).tmod 26) % 256 := rfl
        have hu2 := Int.emod_nonneg (IntKind.i64.wrap (65 + (i : Int).tmod 26)) (b := 256) (by decide)
        have hu3 := Int.emod_lt_of_pos (IntKind.i64.wrap (65 + (i : Int).tmod 26)) (b := 256) (by decide)
        rw [← hu] at hu2 hu3
        generalize IntKind.u8.wrap (IntKind.i64.wrap (65 + (i : Int).tmod 26)) = z at hu2 hu3 ⊢
        refine ⟨⟨hu2, hu3⟩, by simp [rowsOne], by omega, by omega, M ++ [⟨1, [107], [UInt8.ofNat z.toNat]⟩], ⟨by simp [hM1], fun y hy => ?_⟩, Wk.weak (ρ := [0, 1]) (φ := []) ?_⟩
        · rcases List.mem_append.1 hy with hy | hy
          · exact hM2 y hy
          · rw [List.mem_singleton] at hy
            subst hy
            simp
        · simp [Record.rows, Record.cells]
      · obtain ⟨hM1, hM2⟩ := hI
        simp
        refine ⟨(M, c2), ⟨h3.mono (by omega) (by omega), by simp only; omega, hM2⟩, Wk.weak (ρ := [0, 1]) (φ := []) ?_⟩
        simp
    · refine ⟨(L ++ [r'], b.2), ⟨h2.mono (by omega) (by omega), by simp; omega, hM⟩, Wk.weak (ρ := [0, 1]) (φ := []) ?_⟩
      simp [hR]
  · skip
    have k2 := c_one h1 (by omega) 24
    obtain ⟨_, _, h2⟩ := Src.ok.pick h1 (by omega) 24
    generalize a.2.pick 24 = b at k2 h2
    refine CallZ.useM [0] [] [] k2 (by simp) rfl rfl (by simp) rfl rfl rfl (.inl rfl) ?_
    simp
    refine ⟨fun _ => ?_, fun _ => ?_⟩
    · have k3 := c_among h2 (by omega) [32, 33] (by simp) (by simp)
      have m3 := Src.among_mem h2 (by omega) (l := [32, 33]) (by simp)
      have h3 := h2.among (by omega) [32, 33]
      generalize b.2.among [32, 33] = c at k3 m3 h3
      obtain ⟨c1, c2⟩ := c
      simp at m3
      obtain ⟨K, hK, hK2⟩ : ∃ K : Nat, c1 = K ∧ K ≤ 33 := ⟨c1.toNat, by omega, by omega⟩
      subst hK
      simp only at k3 h3
      refine CallZ.useM [0, 2] [] [] k3 (by simp [intRows]) rfl rfl (by simp) rfl rfl rfl (.inl rfl) ?_
      simp
      refine loop_uptoG hm K (fun i (M : List Record) => ⟨[(0, .pb 0 0), (3, .sf 1 3), (4, .int .i64 K), (5, .int .i64 i), (39, .own 0)], [c2.box, some (.arr 3 (Record.rows M))]⟩)
        (fun i M => M.length = i ∧ ∀ r ∈ M, r.key.length ≤ 70 ∧ r.text.length ≤ 70 ∧ 0 ≤ r.kind ∧ r.kind ≤ 9) (by kernel_rfl) ⟨[], ⟨rfl, by simp⟩, ?_⟩ (fun i M hi hI => ?_) (fun M hI => ?_)
      · refine (weak_nil (t := 3) (z := 3) rfl).trans (Wk.weak (ρ := [0, 3]) (φ := []) ?_)
        simp [Record.rows]
      · have w1 : IntKind.i64.wrap ((i : Int) + 1) = (i : Int) + 1 := w64 (by omega) (by omega)
        obtain ⟨hM1, hM2⟩ := hI
        simp [show (i : Int) < K by omega, w1, Record.rows_len, hM1]
        have hu : IntKind.u8.wrap (IntKind.i64.wrap (65 + (i : Int).tmod 26)) = IntKind.i64.wrap (65 + (i : Int).tmod 26) % 256 := rfl
        have hu2 := Int.emod_nonneg (IntKind.i64.wrap (65 + (i : Int).tmod 26)) (b := 256) (by decide)
        have hu3 := Int.emod_lt_of_pos (IntKind.i64.wrap (65 + (i : Int).tmod 26)) (b := 256) (by decide)
        rw [← hu] at hu2 hu3
        generalize IntKind.u8.wrap (IntKind.i64.wrap (65 + (i : Int).tmod 26)) = z at hu2 hu3 ⊢
        refine ⟨⟨hu2, hu3⟩, by simp [rowsOne], by omega, by omega, M ++ [⟨1, [107], [UInt8.ofNat z.toNat]⟩], ⟨by simp [hM1], fun y hy => ?_⟩, Wk.weak (ρ := [0, 1]) (φ := []) ?_⟩
        · rcases List.mem_append.1 hy with hy | hy
          · exact hM2 y hy
          · rw [List.mem_singleton] at hy
            subst hy
            simp
        · simp [Record.rows, Record.cells]
      · obtain ⟨hM1, hM2⟩ := hI
        simp
        refine ⟨(M, c2), ⟨h3.mono (by omega) (by omega), by simp only; omega, hM2⟩, Wk.weak (ρ := [0, 1]) (φ := []) ?_⟩
        simp
    · refine ⟨(L, b.2), ⟨h2.mono (by omega) (by omega), by simp only; omega, i3⟩, Wk.weak (ρ := [0, 1]) (φ := []) ?_⟩
      simp

theorem c_DrawSaveLedger (code : List Int) (hc : ∀ c ∈ code, 0 ≤ c ∧ c < 256) (hl : code.length ≤ 9223372036854775807) : GFn Tryz.prog 18 [.sl 1 (byteRows code)] [] [] (fun L : List Record => L.length ≤ 33 ∧ ∀ r ∈ L, r.key.length ≤ 70 ∧ r.text.length ≤ 70 ∧ 0 ≤ r.kind ∧ r.kind ≤ 9) (fun _ => .sf 0 3) (fun L => [some (.arr 3 (Record.rows L))]) := by
  have h0 : (Src.mk code 0 0).ok 0 := ⟨hc, hl, by simp, by simp, by simp⟩
  refine gfn_intro [] hm Tryz.func18 (by kernel_rfl) rfl (by kernel_rfl) rfl (by simp) (by simp) ?_
  simp
  refine CallZ.useM [] [] [] (c_l00From code) (by simp) rfl rfl (by simp) rfl rfl rfl (.inl rfl) ?_
  simp
  refine CallZ.useG [0] [] [] (c_l30Draw h0 (by omega)) (by simp) rfl (by simp) rfl (fun x _ => ⟨rfl, rfl, rfl, .inl rfl⟩) (fun x hx => ?_)
  simp
  refine ⟨x.1, hx.2, Wk.weak (ρ := [1]) (φ := []) ?_⟩
  simp
end Go.Proofs.YtmdablalfmcgnaaGreatDoor
