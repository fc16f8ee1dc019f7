/- Contracts: bells and beams that are drawn. No condition. -/
import Derived.Test.YtcjpfjklhhclmaaGreatDoorAda
import Derived.Test.YtcjpfjklhhclmaaGreatDoorBk
namespace Go.Proofs.YtcjpfjklhhclmaaGreatDoor
open Go Go.Ab
set_option maxRecDepth 100000

theorem among_mem {m : Nat} {s : Src} (h : s.ok m) (hb : m + 2 ≤ 4611686018427387904) (l : List Int) (hl : 0 < l.length) : (s.among l).1 ∈ l := by
  obtain ⟨h1, h2, _⟩ := h.pick hb (l.length : Int)
  have h2 := h2 (by omega)
  have hi : (s.pick l.length).1.toNat < l.length := by omega
  simp only [Src.among, List.getD_eq_getElem?_getD, List.getElem?_eq_getElem hi, Option.getD_some]
  exact List.getElem_mem hi

theorem c_l18Own (x : Bell) (rows : List (List PV)) (i0 : Nat) (hr : rows[i0]? = some x.cells) (hx : x.shares.length ≤ 1048576) : HFn Tryz.prog 259 [.pe 5 rows i0 0] [] (.agg x.cells) [] := by
  have hi0 : i0 < rows.length := (List.getElem?_eq_some_iff.1 hr).1
  have hx0 : rows[i0] = x.cells := (List.getElem?_eq_some_iff.1 hr).2
  rw [Bell.cells] at hr hx0
  refine hfn_intro hm Tryz.func259 (by kernel_rfl) rfl (by kernel_rfl) rfl (fun _ _ h => h) ?_
  simp [hi0, hx0, Share.rows_len]
  refine ⟨Share.one _, by omega, by omega, Wk.weak (ρ := []) (φ := [2]) ?_⟩
  simp [Bell.cells]

/-- Bells, n at most, none of them long. -/
def BellD (n : Nat) (bs : List Bell) : Prop := bs.length ≤ n ∧ ∀ x ∈ bs, x.shares.length ≤ 4
set_option maxHeartbeats 16000000 in
theorem c_l18DrawOne {m : Nat} {s : Src} (h : s.ok m) (hb : m + 50 ≤ 4611686018427387904) (ms : List Melt) (hl : MelD 5 ms) : GFn Tryz.prog 182 [.pb 0 0, .sl 3 (Melt.rows ms)] [s.box] [0] (fun x : Bell × Src => x.1.shares.length ≤ 4 ∧ x.2.ok (m + 50)) (fun x => .agg x.1.cells) (fun x => [x.2.box]) := by
  have hlen := hl.1
  have k1 := c_textS h (by omega) [[98, 49], [98, 50], [98, 51], [98, 52], [98, 53]] (by simp) (by simp)
  have h1 := h.text (by omega) [[98, 49], [98, 50], [98, 51], [98, 52], [98, 53]]
  generalize s.text [[98, 49], [98, 50], [98, 51], [98, 52], [98, 53]] = a at k1 h1
  obtain ⟨id, s1⟩ := a
  simp only at k1 h1
  have k2 := c_pick h1 (by omega) 30
  obtain ⟨p2, q2, h2⟩ := h1.pick (by omega) 30
  generalize s1.pick 30 = b at k2 p2 q2 h2
  have q2 := q2 (by omega)
  obtain ⟨nt, s2⟩ := b
  simp only at k2 p2 q2 h2
  have wn : IntKind.i64.wrap (48 + nt) = 48 + nt := w64 (by omega) (by omega)
  refine gfn_intro [0] hm Tryz.func182 (by kernel_rfl) rfl (by kernel_rfl) rfl (by simp) (by simp) ?_
  simp
  refine CallZ.useM [0, 2] [] [] k1 (by simp [strRows]) rfl rfl (by simp) rfl rfl rfl (.inl rfl) ?_
  simp
  refine CallZ.useM [0] [] [] k2 (by simp) rfl rfl (by simp) rfl rfl rfl (.inl rfl) ?_
  simp [wn]
  refine loop_exitGL hm [6] ms.length (fun i (y : List Share × Src) => ⟨[(0, .pb 0 0), (1, .sl 3 (Melt.rows ms)), (4, .pb 1 0), (5, .pb 2 0), (6, .int .i64 i), (105, .own 0)], [y.2.box, some (.box [.str [], .int .i64 0, .int .i64 0, .int .i64 0, .nils]), some (.box [.str id, .int .i64 (48 + nt), .int .i64 0, .int .i64 0, .sf 3 2]), some (.arr 2 (Share.rows y.1))]⟩)
    (fun i y => y.1.length ≤ 4 ∧ y.2.ok (m + 4 + 4 * i)) 0 (fun (y : List Share × Src) => ⟨[(0, .pb 0 0), (1, .sl 3 (Melt.rows ms)), (4, .pb 1 0), (5, .pb 2 0), (105, .own 0)], [y.2.box, some (.box [.str [], .int .i64 0, .int .i64 0, .int .i64 0, .nils]), some (.box [.str id, .int .i64 (48 + nt), .int .i64 0, .int .i64 0, .sf 3 2]), some (.arr 2 (Share.rows y.1))]⟩)
    (fun y => y.1.length ≤ 4 ∧ y.2.ok (m + 24)) (by kernel_rfl) ⟨([], s2), ⟨by simp, h2⟩, ?_⟩ (fun i y hi hI => ?_) (fun y hI => ?_) (fun y hI => ?_)
  · refine (weak_nilB 3 4 2 rfl rfl).trans (Wk.weak (ρ := [0, 1, 3, 4]) (φ := []) ?_)
    simp [Share.rows]
  · obtain ⟨L, s3⟩ := y
    obtain ⟨hL, h3⟩ := hI
    simp only at hL h3 ⊢
    have k3 := c_one h3 (by omega) 2
    obtain ⟨_, _, h4⟩ := h3.pick (by omega) 2
    generalize s3.pick 2 = b at k3 h4
    obtain ⟨b1, b2⟩ := b
    simp only at k3 h4
    have w1 : IntKind.i64.wrap ((i : Int) + 1) = (i : Int) + 1 := w64 (by omega) (by omega)
    by_cases hL4 : L.length < 4
    · have hL4' : (L.length : Int) < 4 := by omega
      simp [Melt.rows_len, Share.rows_len, hi, hL4']
      refine CallZ.useM [0] [] [] k3 (by simp) rfl rfl (by simp) rfl rfl rfl (.inl rfl) ?_
      simp
      refine ⟨fun g => ?_, fun g => ?_⟩
      · have k5 := c_among h4 (by omega) [2, 3, 5, 1, 20] (by simp) (by simp)
        have m5 := among_mem h4 (by omega) [2, 3, 5, 1, 20] (by simp)
        have h5 := h4.among (by omega) [2, 3, 5, 1, 20]
        generalize b2.among [2, 3, 5, 1, 20] = c at k5 m5 h5
        obtain ⟨c1, c2⟩ := c
        simp only at k5 m5 h5
        have hc0 : ¬ c1 = 0 := by rintro rfl; simp at m5
        refine ends_late hm 14 [[0, 1, 2, 3, 4, 5, 6, 7, 8, 9, 10, 11], [0, 1, 2, 3, 4, 5, 6], [0, 1, 2, 3, 4, 5, 6], [0, 1], [0, 1], []] (by kernel_rfl) ?_
        simp [Melt.rows_len, Melt.row_get, Melt.cells, hi]
        refine CallZ.useM [0, 4] [] [] k5 (by simp [intRows]) rfl rfl (by simp) rfl rfl rfl (.inl rfl) ?_
        simp [Melt.rows_len, Melt.row_get, Melt.cells, hi, hc0]
        refine CallZ.use0 (c_l00Max _ _) rfl rfl ?_
        simp [Melt.rows_len, Melt.row_get, Melt.cells, hi, Share.rows_len]
        refine ⟨by simp [rowsOne], by omega, by omega, (L ++ [⟨ms[i].id, max 1 (IntKind.i64.wrap (ms[i].mass.tdiv c1))⟩], c2), ⟨by simp; omega, h5.mono (by omega) (by omega)⟩, Wk.weak (ρ := [0, 1, 2, 3]) (φ := []) ?_⟩
        simp [w1, Share.rows, Share.cells]
      · refine ⟨(L, b2), ⟨by simp only; omega, h4.mono (by omega) (by omega)⟩, Wk.weak (ρ := [0, 1, 2, 3]) (φ := []) ?_⟩
        simp [w1]
    · have hL4' : ¬ (L.length : Int) < 4 := by omega
      simp [Melt.rows_len, Share.rows_len, hi, hL4']
      refine ⟨(L, s3), ⟨by simp only; omega, h3.mono (by omega) (by omega)⟩, Wk.weak (ρ := [0, 1, 2, 3]) (φ := []) ?_⟩
      simp
  · obtain ⟨L, s3⟩ := y
    obtain ⟨hL, h3⟩ := hI
    simp only at hL h3 ⊢
    simp [Melt.rows_len]
    refine ⟨(L, s3), ⟨by simp only; omega, h3.mono (by omega) (by omega)⟩, Wk.weak (ρ := [0, 1, 2, 3]) (φ := []) ?_⟩
    simp
  · obtain ⟨L, s3⟩ := y
    obtain ⟨hL, h3⟩ := hI
    simp only at hL h3 ⊢
    have kt := c_textS h3 (by omega) [[109, 49], [109, 50]] (by simp) (by simp)
    have ht := h3.text (by omega) [[109, 49], [109, 50]]
    generalize s3.text [[109, 49], [109, 50]] = a at kt ht
    obtain ⟨tx, s4⟩ := a
    simp only at kt ht
    have kf : ∀ s5 : Src, s5.ok (m + 26) → ∃ c1 c2, c1 ≠ 0 ∧ MFn Tryz.prog 100 [.pb 0 0, .sf 1 1] [s5.box, some (.arr 1 (intRows [10, 20, 100000000]))] [0, 1] (.int .i64 c1) [Src.box c2, some (.arr 1 (intRows [10, 20, 100000000]))] ∧ c2.ok (m + 28) := fun s5 h5 => by
      refine ⟨_, _, fun e => ?_, c_among h5 (by omega) [10, 20, 100000000] (by simp) (by simp), h5.among (by omega) _⟩
      have := among_mem h5 (by omega) [10, 20, 100000000] (by simp)
      rw [e] at this
      simp at this
    by_cases h0 : L = []
    case' pos =>
      subst h0
      obtain ⟨L', hL', eL⟩ : ∃ L' : List Share, L'.length ≤ 4 ∧ L' = [⟨tx, 1000⟩] := ⟨_, by simp, rfl⟩
      obtain ⟨s5, h5, e5⟩ : ∃ s5 : Src, s5.ok (m + 26) ∧ s5 = s4 := ⟨_, ht, rfl⟩
      simp [Share.rows]
      refine CallZ.useM [0, 4] [] [] kt (by simp [strRows]) rfl rfl (by simp) rfl rfl rfl (.inl rfl) ?_
      simp
    case' neg =>
      obtain ⟨L', hL', eL⟩ : ∃ L' : List Share, L'.length ≤ 4 ∧ L' = L := ⟨_, hL, rfl⟩
      obtain ⟨s5, h5, e5⟩ : ∃ s5 : Src, s5.ok (m + 26) ∧ s5 = s3 := ⟨_, h3.mono (by omega) (by omega), rfl⟩
      simp [Share.rows_len, h0]
    all_goals
      refine loop_uptoG hm L'.length (fun i (y : List Share × Int) => ⟨[(0, .pb 0 0), (4, .pb 1 0), (5, .pb 2 0), (7, .int .i64 y.2), (8, .int .i64 i), (105, .own 0)], [s5.box, some (.box [.str [], .int .i64 0, .int .i64 0, .int .i64 0, .nils]), some (.box [.str id, .int .i64 (48 + nt), .int .i64 0, .int .i64 0, .sf 3 2]), some (.arr 2 (Share.rows y.1))]⟩)
        (fun _ y => y.1.length = L'.length) (by kernel_rfl) ⟨(L', 0), rfl, ?_⟩ (fun i y hi hI => ?_) (fun y hI => ?_)
      · first
          | refine Wk.weak (ρ := [0, 1, 2, 5]) (φ := []) ?_
            simp [e5, eL, Share.rows, Share.cells]
            done
          | refine Wk.weak (ρ := [0, 1, 2, 3]) (φ := []) ?_
            simp [e5, eL]
      · obtain ⟨L2, sum⟩ := y
        simp only at hI ⊢
        have hi2 : i < L2.length := by omega
        have w1 : IntKind.i64.wrap ((i : Int) + 1) = (i : Int) + 1 := w64 (by omega) (by omega)
        simp [Share.rows, Share.cells, hi2]
        refine CallZ.use0 (c_l00Min _ _) rfl rfl ?_
        simp [Share.cells, hi2]
        refine ⟨(L2.set i ⟨L2[i].melt, min L2[i].mass 4000000⟩, IntKind.i64.wrap (sum + min L2[i].mass 4000000)), by simp only [List.length_set]; exact hI, Wk.weak (ρ := [0, 1, 2, 3]) (φ := []) ?_⟩
        simp [w1, Share.cells, List.map_set]
      · obtain ⟨L2, sum⟩ := y
        simp only at hI ⊢
        obtain ⟨c1, c2, hc, kA, h6⟩ := kf s5 h5
        simp [Share.rows_len, hI]
        refine CallZ.useM [0, 4] [] [] kA (by simp [intRows]) rfl rfl (by simp) rfl rfl rfl (.inl rfl) ?_
        simp [hc]
        refine ⟨fun g => ?_, fun g => ?_⟩
        · refine ⟨(⟨id, 48 + nt, IntKind.i64.wrap sum, 0, L2⟩, c2), ⟨by simp only; omega, h6.mono (by omega) (by omega)⟩, Wk.weak (ρ := [0]) (φ := [3]) ?_⟩
          simp [Bell.cells]
        · refine ⟨(⟨id, 48 + nt, IntKind.i64.wrap (sum - IntKind.i64.wrap (sum.tdiv c1)), IntKind.i64.wrap (sum.tdiv c1), L2⟩, c2), ⟨by simp only; omega, h6.mono (by omega) (by omega)⟩, Wk.weak (ρ := [0]) (φ := [3]) ?_⟩
          simp [Bell.cells]

theorem c_l18AskG (ms : List Melt) (bs : List Bell) {n k : Nat} (hn : n ≤ 1048576) (hk : k ≤ 1048576) (hs : MelD n ms) (hb : BellD k bs) : GFn Tryz.prog 40 [.sl 3 (Melt.rows ms), .sl 5 (Bell.rows bs)] [] [] (fun c : Int => c = 0 → meltsOk ms = true ∧ bellsOk bs = true) (fun c => .int .i64 c) (fun _ => []) := by
  obtain ⟨hs1, hs2⟩ := hs
  obtain ⟨hb1, hb2⟩ := hb
  have k1 := c_l14Ok ms (by omega) (fun x hx => by have := hs2 x hx; omega)
  have k2 := c_l18Ok bs (by omega) (fun x hx => by have := hb2 x hx; omega)
  refine gfn_intro [] hm Tryz.func40 (by kernel_rfl) rfl (by kernel_rfl) rfl (by simp) (by simp) ?_
  cases h1 : meltsOk ms
  · rw [h1] at k1
    simp
    refine CallZ.use0 k1 rfl rfl ?_
    simp
    refine CallY.use (res := .bool false) (fun h => by cases h) rfl rfl ?_
    simp
    exact ⟨1, by simp, Wk.weak (ρ := []) (φ := []) (by simp)⟩
  · rw [h1] at k1
    simp
    refine CallZ.use0 k1 rfl rfl ?_
    simp
    refine CallY.use (fun _ => ⟨rfl, k2⟩) rfl rfl ?_
    cases h2 : bellsOk bs
    · simp
      exact ⟨1, by simp, Wk.weak (ρ := []) (φ := []) (by simp)⟩
    · simp
      refine loop_upto hm bs.length (fun i => ⟨[(0, .sl 3 (Melt.rows ms)), (1, .sl 5 (Bell.rows bs)), (5, .int .i64 i)], []⟩) (fun _ => True) (by kernel_rfl) ?_ trivial (fun i hi _ => ?_) (fun _ => ?_)
      · exact Wk.weak (ρ := []) (φ := []) (by simp)
      · have w1 : IntKind.i64.wrap ((i : Int) + 1) = (i : Int) + 1 := w64 (by omega) (by omega)
        have h3 := hb2 _ (List.getElem_mem hi)
        simp [Bell.rows_len, hi]
        refine CallZ.use0 (c_l18Known ms bs[i] (Bell.rows bs) i (by simp [Bell.rows, hi]) (by omega) (by omega)) rfl rfl ?_
        simp
        refine ⟨fun _ => ⟨3, trivial, Wk.weak (ρ := []) (φ := []) (by simp)⟩, fun _ => Wk.weak (ρ := []) (φ := []) ?_⟩
        simp [w1]
      · simp [Bell.rows_len]
        exact ⟨0, trivial, Wk.weak (ρ := []) (φ := []) (by simp)⟩

set_option maxHeartbeats 16000000 in
theorem c_AddBell (ms : List Melt) (bs : List Bell) (x : Bell) {n k : Nat} (hn : n ≤ 1000) (hk : k ≤ 10) (hs : MelD n ms) (hb : BellD k bs) (hx : x.shares.length ≤ 4) : GFn Tryz.prog 181 [.sl 3 (Melt.rows ms), .sl 5 (Bell.rows bs), .agg x.cells] [] [] (fun y : List Bell × Int => BellD (k + 1) y.1) (fun y => .tup [.sl 5 (Bell.rows y.1), .int .i64 y.2]) (fun _ => []) := by
  have hs' := hs
  have hb' := hb
  obtain ⟨hs1, hs2⟩ := hs
  obtain ⟨hb1, hb2⟩ := hb
  have hr : [x.cells][0]? = some x.cells := rfl
  have kA := c_l18AskG ms bs (by omega) (by omega) hs' hb'
  have k1 := c_l18One x [x.cells] 0 hr (by omega)
  have kK := c_l18Known ms x [x.cells] 0 hr (by omega) (by omega)
  have kO := c_l18Own x [x.cells] 0 hr (by omega)
  have fin : ∀ {H : Heap} (c : Int), ∃ y : List Bell × Int, BellD (k + 1) y.1 ∧ Weak ⟨[(0, .tup [.nils, .int .i64 c])], H⟩ ⟨[(0, .tup [.sl 5 (Bell.rows y.1), .int .i64 y.2])], []⟩ := fun c => ⟨([], c), ⟨by simp, by simp⟩, nilTup⟩
  simp only [Bell.cells] at k1 kK kO
  refine gfn_introL [0] [] hm Tryz.func181 (by kernel_rfl) rfl (by kernel_rfl) rfl (by simp) (by simp) ?_
  simp [Bell.cells]
  refine ends_cut 1 (by kernel_rfl) ?_
  simp
  refine ⟨⟨[(0, .sl 3 (Melt.rows ms)), (1, .sl 5 (Bell.rows bs)), (5, .pe 5 [[.str x.id, .int .i64 x.note, .int .i64 x.mass, .int .i64 x.feed, .sl 2 (Share.rows x.shares)]] 0 0)], []⟩, Wk.weak (ρ := []) (φ := [0]) (by simp), ?_⟩
  simp
  refine CallZ.useG [] [] [] kA (by simp) rfl (by simp) rfl (fun x _ => ⟨rfl, rfl, rfl, .inl rfl⟩) (fun c hc => ?_)
  simp
  by_cases hc1 : c = 1
  · simp [hc1]
    refine CallY.use (res := .bool false) (fun h => by cases h) rfl rfl ?_
    simp
    exact fin _
  simp [hc1]
  refine CallY.use (fun _ => ⟨rfl, k1⟩) rfl rfl ?_
  cases hv : bellOk x
  · simp
    exact fin _
  simp
  by_cases hc0 : c = 0
  rotate_left
  · simp [hc0]
    refine CallY.use (res := .bool false) (fun h => by cases h) rfl rfl ?_
    simp
    exact fin _
  obtain ⟨hmo, hbo⟩ := hc hc0
  have hM := melOk_of hmo
  have hB := belOk_of hbo
  have hX : ∀ s ∈ x.shares, 1 ≤ s.mass ∧ s.mass ≤ 20000000 := (belOk_of (bs := [x]) (by simp [bellsOk, upOk, upAt, hv])).mass x (by simp)
  simp [hc0]
  refine CallY.use (fun _ => ⟨rfl, kK⟩) rfl rfl ?_
  cases haveB ms x
  · simp
    exact fin _
  simp
  refine loop_uptoG hm bs.length (fun i (y : List Bell × Bool × Bool) => ⟨[(0, .sl 3 (Melt.rows ms)), (1, .sl 5 (Bell.rows bs)), (5, .pe 5 [[.str x.id, .int .i64 x.note, .int .i64 x.mass, .int .i64 x.feed, .sl 2 (Share.rows x.shares)]] 0 0), (9, .sf 0 5), (10, .bool y.2.2), (11, .bool y.2.1), (12, .int .i64 i)], [some (.arr 5 (Bell.rows y.1))]⟩)
    (fun i y => y.1.length ≤ i + 1 ∧ (y.2.1 = false → y.1.length ≤ i) ∧ ∀ z ∈ y.1, z.shares.length ≤ 4 ∧ ∀ s ∈ z.shares, 1 ≤ s.mass ∧ s.mass ≤ 20000000) (by kernel_rfl) ⟨([], false, false), ⟨by simp, by simp, by simp⟩, ?_⟩ (fun i y hi hI => ?_) (fun y hI => ?_)
  · exact (weak_nil (t := 9) (z := 5) rfl).trans (Wk.weak (ρ := [0]) (φ := []) (by simp [Bell.rows]))
  · obtain ⟨M, d, e⟩ := y
    obtain ⟨hM1, hMd, hMz⟩ := hI
    simp only at hM1 hMd hMz
    have w1 : IntKind.i64.wrap ((i : Int) + 1) = (i : Int) + 1 := w64 (by omega) (by omega)
    have hz := hb2 bs[i] (List.getElem_mem hi)
    have hzm := hB.mass bs[i] (List.getElem_mem hi)
    have kI := c_l18Own bs[i] (Bell.rows bs) i (by simp [Bell.rows, hi]) (by omega)
    simp only [Bell.cells] at kI
    have sn : ∀ {M : List Bell} {b : Bell}, (∀ z ∈ M, z.shares.length ≤ 4 ∧ ∀ s ∈ z.shares, 1 ≤ s.mass ∧ s.mass ≤ 20000000) → (b.shares.length ≤ 4 ∧ ∀ s ∈ b.shares, 1 ≤ s.mass ∧ s.mass ≤ 20000000) → ∀ z ∈ M ++ [b], z.shares.length ≤ 4 ∧ ∀ s ∈ z.shares, 1 ≤ s.mass ∧ s.mass ≤ 20000000 := fun {M b} h1 h2 z hz => by
      rcases List.mem_append.1 hz with h | h
      · exact h1 z h
      · rw [List.mem_singleton.1 h]; exact h2
    have app : ∀ (M : List Bell) (z : Bell), Bell.rows M ++ [[PV.str z.id, .int .i64 z.note, .int .i64 z.mass, .int .i64 z.feed, .sl 2 (Share.rows z.shares)]] = Bell.rows (M ++ [z]) := fun M z => by simp [Bell.rows, Bell.cells]
    have stp : ∃ e' : Bool, e' = (e || decide (bs[i].id = x.id)) := ⟨_, rfl⟩
    obtain ⟨e', he'⟩ := stp
    cases d
    · have hMd := hMd rfl
      cases e
      all_goals
        simp [Bell.rows_len, Bell.row_get, Bell.cells, hi]
        refine ⟨fun _ _ => ?_, fun _ => ?_⟩
        · refine CallZ.use0 kO rfl rfl ?_
          simp [Bell.rows_len, hi]
          refine ⟨by simp [rowsOne], by omega, by omega, ?_⟩
          refine CallZ.use0 kI rfl rfl ?_
          simp [Bell.rows_len]
          refine ⟨by simp [rowsOne], by omega, by omega, (M ++ [x] ++ [bs[i]], true, e'), ⟨by simp; omega, by simp, sn (sn hMz ⟨hx, hX⟩) ⟨hz, hzm⟩⟩, Wk.weak (ρ := [0]) (φ := []) ?_⟩
          simp [w1, he']
          simp [Bell.rows, Bell.cells]
        · refine CallZ.use0 kI rfl rfl ?_
          simp [Bell.rows_len]
          refine ⟨by simp [rowsOne], by omega, by omega, (M ++ [bs[i]], false, e'), ⟨by simp; omega, by simp; omega, sn hMz ⟨hz, hzm⟩⟩, Wk.weak (ρ := [0]) (φ := []) ?_⟩
          simp [w1, app, he']
    · cases e
      all_goals
        simp [Bell.rows_len, Bell.row_get, Bell.cells, hi]
        refine CallZ.use0 kI rfl rfl ?_
        simp [Bell.rows_len]
        refine ⟨by simp [rowsOne], by omega, by omega, (M ++ [bs[i]], true, e'), ⟨by simp; omega, by simp, sn hMz ⟨hz, hzm⟩⟩, Wk.weak (ρ := [0]) (φ := []) ?_⟩
        simp [w1, app, he']
  · obtain ⟨M, d, e⟩ := y
    obtain ⟨hM1, hMd, hMz⟩ := hI
    simp only at hM1 hMd hMz
    have tl : ∀ M2 : List Bell, (∀ z ∈ M2, z.shares.length ≤ 4 ∧ ∀ s ∈ z.shares, 1 ≤ s.mass ∧ s.mass ≤ 20000000) → M2.length ≤ 24 → HFn Tryz.prog 41 [.sl 3 (Melt.rows ms), .sl 5 (Bell.rows M2)] [] (.bool (enoughL ms M2)) [] := fun M2 h1 h2 => c_l18Enough ms M2 hM ⟨h2, fun b hb => (h1 b hb).1, fun b hb => (h1 b hb).2⟩
    cases d
    · have hMd := hMd rfl
      have hMx : ∀ z ∈ M ++ [x], z.shares.length ≤ 4 ∧ ∀ s ∈ z.shares, 1 ≤ s.mass ∧ s.mass ≤ 20000000 := fun z hz => by
        rcases List.mem_append.1 hz with h | h
        · exact hMz z h
        · rw [List.mem_singleton.1 h]; exact ⟨hx, hX⟩
      have app : Bell.rows M ++ [[PV.str x.id, .int .i64 x.note, .int .i64 x.mass, .int .i64 x.feed, .sl 2 (Share.rows x.shares)]] = Bell.rows (M ++ [x]) := by simp [Bell.rows, Bell.cells]
      have kE := tl (M ++ [x]) hMx (by simp; omega)
      simp [Bell.rows_len]
      refine CallZ.use0 kO rfl rfl ?_
      simp [Bell.rows_len]
      refine ⟨by simp [rowsOne], by omega, by omega, ?_⟩
      rw [app]
      refine CallZ.use0 kE rfl rfl ?_
      simp
      refine ⟨fun _ => fin _, fun _ => ⟨fun _ => fin _, fun _ => ?_⟩⟩
      simp [Bell.rows_len]
      refine ⟨fun _ => fin _, fun _ => ⟨(M ++ [x], 0), ⟨by simp; omega, fun z hz => (hMx z hz).1⟩, Wk.weak (ρ := []) (φ := [0]) (by simp)⟩⟩
    · have kE := tl M hMz (by omega)
      simp [Bell.rows_len]
      refine CallZ.use0 kE rfl rfl ?_
      simp
      refine ⟨fun _ => fin _, fun _ => ⟨fun _ => fin _, fun _ => ?_⟩⟩
      simp [Bell.rows_len]
      refine ⟨fun _ => fin _, fun _ => ⟨(M, 0), ⟨by simp only; omega, fun z hz => (hMz z hz).1⟩, Wk.weak (ρ := []) (φ := [0]) (by simp)⟩⟩

theorem c_l18DrawOk {m : Nat} {s : Src} (h : s.ok m) (hb : m + 600 ≤ 4611686018427387904) : GFn Tryz.prog 96 [.pb 0 0] [s.box] [0] (fun x : List Ingot × List Melt × List Bell × Src => x.1.length ≤ 7 ∧ MelD 5 x.2.1 ∧ BellD 5 x.2.2.1 ∧ x.2.2.2.ok (m + 600)) (fun x => .tup [.sl 5 (Ingot.rows x.1), .sl 3 (Melt.rows x.2.1), .sl 5 (Bell.rows x.2.2.1)]) (fun x => [x.2.2.2.box]) := by
  refine gfn_intro [0] hm Tryz.func96 (by kernel_rfl) rfl (by kernel_rfl) rfl (by simp) (by simp) ?_
  simp
  refine CallZ.useG [0] [] [] (c_l14DrawOk h (by omega)) (by simp) rfl (by simp) rfl (fun x _ => ⟨rfl, rfl, rfl, .inl rfl⟩) (fun x hx => ?_)
  obtain ⟨l, ms, s1⟩ := x
  obtain ⟨hl, hms, h1⟩ := hx
  simp only at hl hms h1 ⊢
  have k1 := c_pick h1 (by omega) 5
  obtain ⟨p1, q1, h2⟩ := h1.pick (by omega) 5
  generalize s1.pick 5 = b at k1 p1 q1 h2
  have q1 := q1 (by omega)
  obtain ⟨c1, s2⟩ := b
  obtain ⟨K, rfl⟩ : ∃ K : Nat, c1 = K := ⟨c1.toNat, by simp only at p1; omega⟩
  simp only at k1 h2 q1 p1
  simp
  refine CallZ.useM [0] [] [] k1 (by simp) rfl rfl (by simp) rfl rfl rfl (.inl rfl) ?_
  simp
  refine loop_uptoG hm K (fun i (y : List Bell × Src) => ⟨[(0, .pb 0 0), (5, .sl 5 (Ingot.rows l)), (6, .sl 3 (Melt.rows ms)), (7, .sl 5 (Bell.rows y.1)), (8, .int .i64 ((K : Int) - i)), (38, .own 0)], [y.2.box]⟩)
    (fun i y => BellD i y.1 ∧ y.2.ok (m + 302 + 50 * i)) (by kernel_rfl) ⟨([], s2), ⟨⟨by simp, by simp⟩, h2⟩, ?_⟩ (fun i y hi hI => ?_) (fun y hI => ?_)
  · refine (weak_nil (t := 7) (z := 5) rfl).trans (Wk.weak (ρ := [0]) (φ := [1]) ?_)
    simp [Bell.rows]
  · obtain ⟨M, s3⟩ := y
    obtain ⟨hM, h3⟩ := hI
    simp only at hM h3 ⊢
    have w1 : IntKind.i64.wrap ((K : Int) - i - 1) = (K : Int) - (i + 1) := by rw [w64 (by omega) (by omega)]; omega
    simp [show (i : Int) < K by omega]
    refine CallZ.useG [0] [] [] (c_l18DrawOne h3 (by omega) ms hms) (by simp) rfl (by simp) rfl (fun x _ => ⟨rfl, rfl, rfl, .inl rfl⟩) (fun x hx => ?_)
    obtain ⟨x, s4⟩ := x
    obtain ⟨hx, h4⟩ := hx
    simp only at hx h4 ⊢
    have kA := c_AddBell ms M x (by omega) (by omega) hms hM hx
    simp only [Bell.cells] at kA
    simp [Bell.cells]
    refine CallZ.useG [] [] [] kA (by simp) rfl (by simp) rfl (fun x _ => ⟨rfl, rfl, rfl, .inl rfl⟩) (fun y hy => ?_)
    obtain ⟨M', c⟩ := y
    simp only at hy
    simp
    refine ⟨fun _ => ⟨(M', s4), ⟨hy, h4.mono (by omega) (by omega)⟩, Wk.weak (ρ := [0]) (φ := []) ?_⟩, fun _ => ⟨(M, s4), ⟨⟨by have := hM.1; simp only; omega, hM.2⟩, h4.mono (by omega) (by omega)⟩, Wk.weak (ρ := [0]) (φ := []) ?_⟩⟩
    · simp [w1]
    · simp [w1]
  · obtain ⟨M, s3⟩ := y
    obtain ⟨hM, h3⟩ := hI
    simp only at hM h3 ⊢
    simp
    refine ⟨(l, ms, M, s3), ⟨hl.len, hms, ⟨by have := hM.1; simp only; omega, hM.2⟩, h3.mono (by omega) (by omega)⟩, Wk.weak (ρ := [0]) (φ := []) ?_⟩
    simp

set_option maxHeartbeats 4000000 in
theorem c_l21Draw {m : Nat} {s : Src} (h : s.ok m) (hb : m + 50 ≤ 4611686018427387904) : GFn Tryz.prog 98 [.pb 0 0] [s.box] [0] (fun x : Beam × Src => x.1.loads.length ≤ 4 ∧ x.2.ok (m + 50)) (fun x => .agg x.1.cells) (fun x => [x.2.box]) := by
  have k1 := c_textS h (by omega) [[110, 111, 114, 116, 104], [115, 111, 117, 116, 104], [109, 97, 105, 110]] (by simp) (by simp)
  have h1 := h.text (by omega) [[110, 111, 114, 116, 104], [115, 111, 117, 116, 104], [109, 97, 105, 110]]
  generalize s.text [[110, 111, 114, 116, 104], [115, 111, 117, 116, 104], [109, 97, 105, 110]] = a at k1 h1
  obtain ⟨nm, s1⟩ := a
  simp only at k1 h1
  have pk : ∀ {k : Nat} {s : Src} (n : Int), s.ok k → k + 2 ≤ 4611686018427387904 → 0 < n → n ≤ 100000 → ∃ (v : Int) (s' : Src), 0 ≤ v ∧ v < n ∧ s'.ok (k + 2) ∧ MFn Tryz.prog 97 [.pb 0 0, .int .i64 n] [s.box] [0] (.int .i64 v) [s'.box] := fun {k s} n hs hb h0 h1 => by
    obtain ⟨p, q, r⟩ := hs.pick hb n
    exact ⟨_, _, p, q h0, r, c_pick hs hb n⟩
  obtain ⟨v2, s2, p2, q2, h2, k2⟩ := pk 4000 h1 (by omega) (by omega) (by omega)
  obtain ⟨v3, s3, p3, q3, h3, k3⟩ := pk 300 h2 (by omega) (by omega) (by omega)
  obtain ⟨v4, s4, p4, q4, h4, k4⟩ := pk 400 h3 (by omega) (by omega) (by omega)
  have k5 := c_among h4 (by omega) [8000, 11000, 13000] (by simp) (by simp)
  have h5 := h4.among (by omega) [8000, 11000, 13000]
  generalize s4.among [8000, 11000, 13000] = a at k5 h5
  obtain ⟨v5, s5⟩ := a
  simp only at k5 h5
  obtain ⟨v6, s6, p6, q6, h6, k6⟩ := pk 4 h5 (by omega) (by omega) (by omega)
  obtain ⟨K, rfl⟩ : ∃ K : Nat, v6 = K := ⟨v6.toNat, by omega⟩
  have e2 : IntKind.i64.wrap (500 + v2) = 500 + v2 := w64 (by omega) (by omega)
  have e3 : IntKind.i64.wrap (50 + v3) = 50 + v3 := w64 (by omega) (by omega)
  have e4 : IntKind.i64.wrap (50 + v4) = 50 + v4 := w64 (by omega) (by omega)
  refine gfn_intro [0] hm Tryz.func98 (by kernel_rfl) rfl (by kernel_rfl) rfl (by simp) (by simp) ?_
  simp
  refine CallZ.useM [0, 2] [] [] k1 (by simp [strRows]) rfl rfl (by simp) rfl rfl rfl (.inl rfl) ?_
  simp
  refine CallZ.useM [0] [] [] k2 (by simp) rfl rfl (by simp) rfl rfl rfl (.inl rfl) ?_
  simp [e2]
  refine CallZ.useM [0] [] [] k3 (by simp) rfl rfl (by simp) rfl rfl rfl (.inl rfl) ?_
  simp [e3]
  refine CallZ.useM [0] [] [] k4 (by simp) rfl rfl (by simp) rfl rfl rfl (.inl rfl) ?_
  simp [e4]
  refine CallZ.useM [0, 4] [] [] k5 (by simp [intRows]) rfl rfl (by simp) rfl rfl rfl (.inl rfl) ?_
  simp
  refine CallZ.useM [0] [] [] k6 (by simp) rfl rfl (by simp) rfl rfl rfl (.inl rfl) ?_
  simp
  refine loop_uptoGL hm [10] K (fun i (y : List Load × Int × Src) => ⟨[(0, .pb 0 0), (2, .pb 1 0), (3, .pb 2 0), (4, .int .i64 y.2.1), (5, .int .i64 ((K : Int) - i)), (52, .own 0)], [y.2.2.box, some (.box [.str [], .int .i64 0, .int .i64 0, .int .i64 0, .int .i64 0, .nils]), some (.box [.str nm, .int .i64 (500 + v2), .int .i64 (50 + v3), .int .i64 (50 + v4), .int .i64 v5, .sf 3 2]), some (.arr 2 (Load.rows y.1))]⟩)
    (fun i y => y.1.length ≤ i ∧ y.2.2.ok (m + 12 + 4 * i)) (by kernel_rfl) ⟨([], 0, s6), ⟨by simp, h6⟩, ?_⟩ (fun i y hi hI => ?_) (fun y hI => ?_)
  · refine (weak_nilB 3 5 2 rfl rfl).trans (Wk.weak (ρ := [0, 1, 3, 5]) (φ := []) ?_)
    simp [Load.rows]
  · obtain ⟨L, at_, s7⟩ := y
    obtain ⟨hL, h7⟩ := hI
    simp only at hL h7 ⊢
    have w1 : IntKind.i64.wrap ((K : Int) - i - 1) = (K : Int) - (i + 1) := by rw [w64 (by omega) (by omega)]; omega
    simp [show (i : Int) < K by omega]
    obtain ⟨v8, s8, h8, k8⟩ : ∃ (v : Int) (s' : Src), s'.ok (m + 12 + 4 * i + 2) ∧ MFn Tryz.prog 97 [.pb 0 0, .int .i64 (IntKind.i64.wrap (IntKind.i64.wrap ((IntKind.i64.wrap (500 + v2 - at_)).tdiv 2) + 1))] [s7.box] [0] (.int .i64 v) [s'.box] := ⟨_, _, (h7.pick (by omega) _).2.2, c_pick h7 (by omega) _⟩
    refine CallZ.useM [0] [] [] k8 (by simp) rfl rfl (by simp) rfl rfl rfl (.inl rfl) ?_
    simp
    obtain ⟨v9, s9, p9, q9, h9, k9⟩ := pk 30000 h8 (by omega) (by omega) (by omega)
    have e9 : IntKind.i64.wrap (1 + v9) = 1 + v9 := w64 (by omega) (by omega)
    refine ends_late hm 4 [[0, 1, 2], [0, 1, 2], [0, 1], [0, 1], []] (by kernel_rfl) ?_
    simp
    refine CallZ.useM [0] [] [] k9 (by simp) rfl rfl (by simp) rfl rfl rfl (.inl rfl) ?_
    simp [e9, Load.rows_len]
    refine ⟨by simp [rowsOne], by omega, by omega, (L ++ [⟨IntKind.i64.wrap (at_ + v8), 1 + v9⟩], IntKind.i64.wrap (at_ + v8), s9), ⟨by simp; omega, h9.mono (by omega) (by omega)⟩, Wk.weak (ρ := [0, 1, 2, 3]) (φ := []) ?_⟩
    simp [w1, Load.rows, Load.cells]
  · obtain ⟨L, at_, s7⟩ := y
    obtain ⟨hL, h7⟩ := hI
    simp only at hL h7 ⊢
    simp
    refine ⟨(⟨nm, 500 + v2, 50 + v3, 50 + v4, v5, L⟩, s7), ⟨by simp only; omega, h7.mono (by omega) (by omega)⟩, Wk.weak (ρ := [0]) (φ := [3]) ?_⟩
    simp [Beam.cells]
end Go.Proofs.YtcjpfjklhhclmaaGreatDoor
