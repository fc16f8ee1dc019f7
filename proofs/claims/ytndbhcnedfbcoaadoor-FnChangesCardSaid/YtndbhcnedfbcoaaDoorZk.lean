/- Contracts: rows and changes that are drawn. No condition. -/
import Derived.Test.YtndbhcnedfbcoaaDoorZj
import Derived.Test.YtndbhcnedfbcoaaDoorNa
namespace Go.Proofs.YtndbhcnedfbcoaaDoor
open Go Go.Ab
set_option maxRecDepth 100000

theorem c_l27Rounds (n : Nat) (hn : n ≤ 1000) : HFn Tryd.prog 29 [.int .i64 n] [] (.sf 0 1) [some (.arr 1 (intRows (roundsL n)))] := by
  refine hfn_intro hm Tryd.func29 (by kernel_rfl) rfl (by kernel_rfl) rfl (fun _ _ h => h) ?_
  simp
  refine loop_upto hm n (fun i => ⟨[(0, .int .i64 n), (3, .sf 0 1), (4, .int .i64 ((i : Int) + 1))], [some (.arr 1 (intRows (roundsL i)))]⟩) (fun _ => True) (by kernel_rfl) ?_ trivial (fun i hi _ => ?_) (fun _ => ?_)
  · refine (weak_nil (t := 3) (z := 1) rfl).trans (Wk.weak (ρ := [0]) (φ := []) ?_)
    simp [roundsL, intRows]
  · have w1 : IntKind.i64.wrap ((i : Int) + 1 + 1) = (i : Int) + 1 + 1 := w64 (by omega) (by omega)
    have g : (i : Int) + 1 ≤ n := by omega
    simp [g, w1, intRows_len, roundsL_len]
    refine ⟨by simp [rowsOne], by omega, by omega, Wk.weak (ρ := [0]) (φ := []) ?_⟩
    simp [roundsL_succ, intRows]
  · have g : ¬ (n : Int) + 1 ≤ n := by omega
    simp [g]
    exact Wk.weak (ρ := [0]) (φ := []) (by simp)

/-- A row of n bells, a source. -/
def RowI (m : Nat) (x : List Int × Src) : Prop := rowP x.1 ∧ x.2.ok m
theorem swap_perm {l : List Int} {i : Nat} (h : i + 1 < l.length) : ((l.set i l[i + 1]).set (i + 1) (l[i]'(by omega))).Perm l := by
  have e : (l.set i l[i + 1]).set (i + 1) (l[i]'(by omega)) = l.take i ++ l[i + 1] :: (l[i]'(by omega)) :: l.drop (i + 2) := by
    apply List.ext_getElem?
    intro k
    simp only [List.getElem?_set, List.length_set, List.getElem?_append, List.length_take, List.getElem?_take]
    by_cases k1 : k < i
    · rw [if_neg (by omega), if_neg (by omega), if_pos (by omega), if_pos k1]
    · by_cases k2 : k = i
      · subst k2
        rw [if_neg (by omega), if_pos rfl, if_pos (by omega), if_neg (by omega), Nat.min_eq_left (by omega), Nat.sub_self]
        rfl
      · by_cases k3 : k = i + 1
        · subst k3
          rw [if_pos rfl, if_pos (by omega), if_neg (by omega), Nat.min_eq_left (by omega), show i + 1 - i = 1 by omega]
          rfl
        · rw [if_neg (by omega), if_neg (by omega), if_neg (by omega), Nat.min_eq_left (by omega)]
          obtain ⟨d, rfl⟩ : ∃ d, k = i + 2 + d := ⟨k - i - 2, by omega⟩
          rw [show i + 2 + d - i = d + 2 by omega]
          simp
  have e2 : l = l.take i ++ (l[i]'(by omega)) :: l[i + 1] :: l.drop (i + 2) := by
    have := List.take_append_drop i l
    rw [List.drop_eq_getElem_cons (by omega), List.drop_eq_getElem_cons (by omega)] at this
    exact this.symm
  rw [e]
  refine List.Perm.trans ?_ (List.Perm.of_eq e2.symm)
  exact (List.Perm.swap _ _ _).append_left _
set_option maxHeartbeats 4000000 in
theorem c_l27Draw {m : Nat} {s : Src} (h : s.ok m) (hb : m + 100 ≤ 4611686018427387904) : GFn Tryd.prog 15 [.pb 0 0] [s.box] [0] (RowI (m + 100)) (fun _ => .sf 1 1) (fun x => [x.2.box, some (.arr 1 (intRows x.1))]) := by
  have k1 := c_pick h (by omega) 10
  obtain ⟨p1, q1, h1⟩ := h.pick (by omega) 10
  generalize s.pick 10 = a at k1 p1 q1 h1
  have k2 := c_pick h1 (by omega) 9
  obtain ⟨p2, q2, h2⟩ := h1.pick (by omega) 9
  generalize a.2.pick 9 = b at k2 p2 q2 h2
  have q1 := q1 (by omega)
  have q2 := q2 (by omega)
  obtain ⟨a1, a2⟩ := a
  obtain ⟨b1, b2⟩ := b
  simp only at k1 k2 p1 p2 q1 q2 h1 h2
  obtain ⟨K, rfl⟩ : ∃ K : Nat, b1 = K := ⟨b1.toNat, by omega⟩
  obtain ⟨n, hn⟩ : ∃ n : Nat, 3 + a1 = n := ⟨(3 + a1).toNat, by omega⟩
  refine gfn_intro [0] hm Tryd.func15 (by kernel_rfl) rfl (by kernel_rfl) rfl (by simp) (by simp) ?_
  have w0 : IntKind.i64.wrap (n : Int) = n := w64 (by omega) (by omega)
  simp
  refine CallZ.useM [0] [] [] k1 (by simp) rfl rfl (by simp) rfl rfl rfl (.inl rfl) ?_
  simp [hn, w0]
  refine CallZ.use (c_l27Rounds n (by omega)) rfl (.inl rfl) rfl rfl ?_
  simp
  refine CallZ.useM [0] [] [] k2 (by simp) rfl rfl (by simp) rfl rfl rfl (.inl rfl) ?_
  simp
  refine loop_uptoG hm K (fun i (y : List Int × Src) => ⟨[(0, .pb 0 0), (3, .int .i64 n), (4, .sf 1 1), (5, .int .i64 ((K : Int) - i)), (41, .own 0)], [y.2.box, some (.arr 1 (intRows y.1))]⟩)
    (fun i y => y.1.length = n ∧ y.1.Perm (roundsL n) ∧ y.2.ok (m + 4 + 2 * i)) (by kernel_rfl) ⟨(roundsL n, b2), ⟨roundsL_len n, .refl _, h2.mono (by omega) (by omega)⟩, ?_⟩ (fun i y hi hI => ?_) (fun y hI => ?_)
  · exact Wk.weak (ρ := [0, 1]) (φ := []) (by simp)
  · obtain ⟨L, s1⟩ := y
    obtain ⟨i1, i2, i3⟩ := hI
    simp only at i1 i2 i3 ⊢
    have k3 := c_pick i3 (by omega) ((n : Int) - 1)
    obtain ⟨p3, q3, h3⟩ := i3.pick (by omega) ((n : Int) - 1)
    generalize s1.pick ((n : Int) - 1) = d at k3 p3 q3 h3 ⊢
    have q3 := q3 (by omega)
    obtain ⟨d1, d2⟩ := d
    simp only at k3 p3 q3 h3
    obtain ⟨j, rfl⟩ : ∃ j : Nat, d1 = j := ⟨d1.toNat, by omega⟩
    have g1 : j + 1 < L.length := by omega
    have g0 : j < L.length := by omega
    have w1 : IntKind.i64.wrap ((K : Int) - i - 1) = (K : Int) - (i + 1) := by rw [w64 (by omega) (by omega)]; omega
    have w2 : IntKind.i64.wrap ((n : Int) - 1) = (n : Int) - 1 := w64 (by omega) (by omega)
    have w3 : IntKind.i64.wrap ((j : Int) + 1) = (j : Int) + 1 := w64 (by omega) (by omega)
    simp [show (i : Int) < K by omega, w2]
    refine CallZ.useM [0] [] [] k3 (by simp) rfl rfl (by simp) rfl rfl rfl (.inl rfl) ?_
    have e : ((intRows L).set j [PV.int .i64 L[j + 1]]).set (j + 1) [PV.int .i64 L[j]] = intRows ((L.set j L[j + 1]).set (j + 1) L[j]) := by simp [intRows, List.map_set]
    simp [w1, w3, intRows_len, ir_get, g1, g0, e]
    try refine ⟨by omega, ?_⟩
    refine ⟨((L.set j L[j + 1]).set (j + 1) L[j], d2), ⟨by simp [i1], (swap_perm g1).trans i2, h3.mono (by omega) (by omega)⟩, Wk.weak (ρ := [0, 1]) (φ := []) ?_⟩
    simp
  · obtain ⟨L, s1⟩ := y
    obtain ⟨i1, i2, i3⟩ := hI
    simp only at i1 i2 i3 ⊢
    simp
    refine ⟨(L, s1), ⟨⟨by simp only; omega, by simp only; omega, by simp only; rw [i1]; exact i2⟩, i3.mono (by omega) (by omega)⟩, Wk.weak (ρ := [0, 1]) (φ := []) ?_⟩
    simp
theorem c_R8Row (code : List Int) (hc : ∀ c ∈ code, 0 ≤ c ∧ c < 256) (hl : code.length ≤ 9223372036854775807) : GFn Tryd.prog 5 [.sl 1 (byteRows code)] [] [] rowP (fun _ => .sf 0 1) (fun r => [some (.arr 1 (intRows r))]) := by
  have h0 : (Src.mk code 0 0).ok 0 := ⟨hc, hl, by simp, by simp, by simp⟩
  refine gfn_intro [] hm Tryd.func5 (by kernel_rfl) rfl (by kernel_rfl) rfl (by simp) (by simp) ?_
  simp
  refine CallZ.useM [] [] [] (c_l00From code) (by simp) rfl rfl (by simp) rfl rfl rfl (.inl rfl) ?_
  simp
  refine CallZ.useG [0] [] [] (c_l27Draw h0 (by omega)) (by simp) rfl (by simp) rfl (fun x _ => ⟨rfl, rfl, rfl, .inl rfl⟩) (fun x hx => ?_)
  simp
  refine ⟨x.1, hx.1, Wk.weak (ρ := [1]) (φ := []) ?_⟩
  simp

/-- A change that is drawn, a source. -/
def ChgI (m : Nat) (x : List UInt8 × Src) : Prop := x.1.length ≤ 20 ∧ x.2.ok m
theorem bytes_back (l : List UInt8) : (bytesV l).map byteV = l := by
  unfold bytesV
  rw [List.map_map]
  exact (List.map_congr_left fun b _ => by simp [byteV]).trans (List.map_id _)
theorem bytes_ok (l : List UInt8) : ∀ r ∈ bytesV l, byteC r = true := fun r hr => by
  simp only [bytesV, List.mem_map] at hr
  obtain ⟨b, _, rfl⟩ := hr
  have := b.toNat_lt
  simp [byteC]
  omega
set_option maxHeartbeats 4000000 in
theorem c_l27DrawChange {m : Nat} {s : Src} (h : s.ok m) (hb : m + 100 ≤ 4611686018427387904) (n : Nat) (hn : 3 ≤ n ∧ n ≤ 12) : GFn Tryd.prog 16 [.pb 0 0, .int .i64 n] [s.box] [0] (ChgI (m + 100)) (fun x => .str x.1) (fun x => [x.2.box]) := by
  obtain ⟨hn1, hn2⟩ := hn
  have ht : ((n : Int).tmod 2 = 0) = (n % 2 = 0) := by rw [Int.tmod_eq_emod_of_nonneg (by omega)]; exact propext ⟨fun h => by omega, fun h => by omega⟩
  have w1 : IntKind.i64.wrap (n : Int) = (n : Int) := w64 (by omega) (by omega)
  refine gfn_intro [0] hm Tryd.func16 (by kernel_rfl) rfl (by kernel_rfl) rfl (by simp) (by simp) ?_
  simp [ht]
  rcases Nat.mod_two_eq_zero_or_one n with he | he
  have k1 := c_one h (by omega) 2
  obtain ⟨_, _, h1⟩ := h.pick (by omega) 2
  generalize s.pick 2 = a at k1 h1
  obtain ⟨a1, s1⟩ := a
  simp only at k1 h1
  simp [he]
  refine CallY.useM [0] [] [] k1 (by simp) rfl rfl (by simp) rfl rfl rfl (.inl rfl) ?_
  simp
  refine ⟨fun _ => ⟨([120], s1), ⟨by simp, h1.mono (by omega) (by omega)⟩, Wk.weak (ρ := [0]) (φ := []) (by simp)⟩, fun _ => ?_⟩
  rotate_left
  have h1 : s.ok (m + 2) := h.mono (by omega) (by omega)
  obtain ⟨s1, hs1⟩ : ∃ s1, s1 = s := ⟨_, rfl⟩
  subst hs1
  simp [he]
  refine CallY.use (res := .bool false) (fun h => by cases h) rfl rfl ?_
  simp
  all_goals
    refine loop_rule hm (ι := {y : List UInt8 × Src × Nat // y.1.length ≤ y.2.2 ∧ 1 ≤ y.2.2 ∧ y.2.2 ≤ n + 2 ∧ y.2.1.ok (m + 2 * y.2.2)}) (fun y => ⟨[(0, .pb 0 0), (1, .int .i64 n), (5, .sf 1 1), (6, .int .i64 y.1.2.2), (40, .own 0)], [y.1.2.1.box, some (.arr 1 (bytesV y.1.1))]⟩) (fun y => n + 3 - y.1.2.2) (by kernel_rfl) ⟨([], s1, 1), by simp, by simp, by simp, h1⟩ ?_ ?_
    · refine (weak_nil (t := 5) (z := 1) rfl).trans (Wk.weak (ρ := [0, 1]) (φ := []) ?_)
      simp [bytesV]
    · rintro ⟨⟨L, s2, k⟩, i1, i2, i3, i4⟩
      simp only at i1 i2 i3 i4 ⊢
      have k3 := c_one i4 (by omega) 3
      obtain ⟨_, _, h3⟩ := i4.pick (by omega) 3
      generalize s2.pick 3 = d at k3 h3
      obtain ⟨d1, s3⟩ := d
      simp only at k3 h3
      by_cases hk : k ≤ n
      · obtain ⟨k', rfl⟩ : ∃ k', k = k' + 1 := ⟨k - 1, by omega⟩
        have g1 : (k' : Int) + 1 ≤ n := by omega
        have g2 : (k' : Int) + 1 ≤ 12 := by omega
        have w2 : IntKind.i64.wrap ((k' : Int) + 1 + 1) = (k' : Int) + 1 + 1 := w64 (by omega) (by omega)
        have w3 : IntKind.i64.wrap ((k' : Int) + 1 + 2) = (k' : Int) + 1 + 2 := w64 (by omega) (by omega)
        simp [g1, g2]
        refine CallZ.useM [0] [] [] k3 (by simp) rfl rfl (by simp) rfl rfl rfl (.inl rfl) ?_
        simp [w3]
        refine ⟨fun _ => ?_, fun _ _ => ?_⟩
        · refine CallZ.use0 (c_l27Sign k' (by omega)) rfl rfl ?_
          simp [w2, bytesV_len]
          refine ⟨by simp [rowsOne], by omega, by omega, L ++ [signB k'], s3, k' + 2, Wk.weak (ρ := [0, 1]) (φ := []) ?_, ⟨by simp; omega, by omega, by omega, h3.mono (by omega) (by omega)⟩, by omega⟩
          simp [bytesV]
          try omega
        · refine ⟨L, s3, k' + 3, Wk.weak (ρ := [0, 1]) (φ := []) ?_, ⟨by omega, by omega, by omega, h3.mono (by omega) (by omega)⟩, by omega⟩
          simp
          try omega
      · simp [hk]
        refine ⟨bytes_ok L, (L, s2), ⟨by simp only; omega, i4.mono (by omega) (by omega)⟩, Wk.weak (ρ := [0]) (φ := []) ?_⟩
        simp [bytes_back]
end Go.Proofs.YtndbhcnedfbcoaaDoor
