/- Contracts: ingots and melts that are drawn. No condition. -/
import Derived.Test.YtcjpfjklhhclmaaGreatDoorBg
import Derived.Test.YtcjpfjklhhclmaaGreatDoorNa
import Derived.Test.YtcjpfjklhhclmaaGreatDoorKf
namespace Go.Proofs.YtcjpfjklhhclmaaGreatDoor
open Go Go.Ab
set_option maxRecDepth 100000

theorem c_l13DrawAlloy {m : Nat} {s : Src} (h : s.ok m) (hb : m + 4 ≤ 4611686018427387904) : GFn Tryz.prog 300 [.pb 0 0] [s.box] [0] (fun x : Alloy × Src => x.2.ok (m + 4)) (fun x => .agg x.1.cells) (fun x => [x.2.box]) := by
  have k1 := c_among h (by omega) [0, 200000, 220000, 230000, 1000000, 150000] (by simp) (by simp)
  have h1 := h.among (by omega) [0, 200000, 220000, 230000, 1000000, 150000]
  generalize s.among [0, 200000, 220000, 230000, 1000000, 150000] = a at k1 h1
  obtain ⟨tin, s1⟩ := a
  simp only at k1 h1
  have k2 := c_among h1 (by omega) [0, 0, 5000, 20000] (by simp) (by simp)
  have h2 := h1.among (by omega) [0, 0, 5000, 20000]
  generalize s1.among [0, 0, 5000, 20000] = b at k2 h2
  obtain ⟨ot, s2⟩ := b
  simp only at k2 h2
  refine gfn_intro [0] hm Tryz.func300 (by kernel_rfl) rfl (by kernel_rfl) rfl (by simp) (by simp) ?_
  simp
  refine CallZ.useM [0, 2] [] [] k1 (by simp [intRows]) rfl rfl (by simp) rfl rfl rfl (.inl rfl) ?_
  simp
  refine ⟨fun g => ?_, fun g => ?_⟩
  · refine CallZ.useM [0, 4] [] [] k2 (by simp [intRows]) rfl rfl (by simp) rfl rfl rfl (.inl rfl) ?_
    simp
    refine ⟨(⟨IntKind.i64.wrap (IntKind.i64.wrap (1000000 - tin) - ot), tin, ot⟩, s2), h2.mono (by omega) (by omega), Wk.weak (ρ := [0]) (φ := []) ?_⟩
    simp [Alloy.cells]
  · refine ⟨(⟨IntKind.i64.wrap (IntKind.i64.wrap (1000000 - tin)), tin, 0⟩, s1), h1.mono (by omega) (by omega), Wk.weak (ρ := [0]) (φ := []) ?_⟩
    simp [Alloy.cells]

/-- Ingots as they are drawn. -/
structure IngD (l : List Ingot) : Prop where
  len : l.length ≤ 7
  ids : ∀ i (h : i < l.length), l[i].id = [UInt8.ofNat (97 + i)]
  mass : ∀ x ∈ l, 0 ≤ x.mass ∧ x.mass ≤ 20000000
theorem IngD.ok {l : List Ingot} (h : IngD l) : IngOk l := ⟨by have := h.len; omega, fun i j hi hj hij => by
  rw [h.ids i hi, h.ids j hj]
  have := h.len
  exact (by decide : ∀ j < 7, ∀ i < j, ([UInt8.ofNat (97 + i)] : List UInt8) < [UInt8.ofNat (97 + j)]) j (by omega) i hij, h.mass⟩
def ingNames : List (List UInt8) := [[97], [98], [99], [100], [101], [102], [103]]
theorem ingNames_get {i : Nat} (h : i < 7) : ingNames[i]'h = [UInt8.ofNat (97 + i)] := (by decide : ∀ i (h : i < 7), ingNames[i]'h = [UInt8.ofNat (97 + i)]) i h
theorem IngD.snoc {l : List Ingot} (h : IngD l) {i : Nat} (hl : l.length = i) (hi : i < 7) {k cu ti ot : Int} (k0 : 0 ≤ k) (k1 : k ≤ 90000) : IngD (l ++ [⟨ingNames[i]'hi, k, cu, ti, ot⟩]) := by
  refine ⟨by simp; omega, fun j hj => ?_, fun x hx => ?_⟩
  · by_cases e : j < l.length
    · rw [List.getElem_append_left e]; exact h.ids j e
    · obtain rfl : j = i := by simp at hj; omega
      subst hl
      simp [ingNames_get hi]
  · rcases List.mem_append.1 hx with hx | hx
    · exact h.mass x hx
    · obtain rfl := List.mem_singleton.1 hx
      exact ⟨k0, by simp only; omega⟩
set_option maxHeartbeats 8000000 in
theorem c_l13Draw {m : Nat} {s : Src} (h : s.ok m) (hb : m + 50 ≤ 4611686018427387904) : GFn Tryz.prog 256 [.pb 0 0] [s.box] [0] (fun x : List Ingot × Src => IngD x.1 ∧ x.2.ok (m + 50)) (fun x => .sl 5 (Ingot.rows x.1)) (fun x => [x.2.box]) := by
  have k1 := c_pick h (by omega) 8
  obtain ⟨p1, q1, h1⟩ := h.pick (by omega) 8
  generalize s.pick 8 = b at k1 p1 q1 h1
  have q1 := q1 (by omega)
  obtain ⟨c1, s1⟩ := b
  obtain ⟨K, rfl⟩ : ∃ K : Nat, c1 = K := ⟨c1.toNat, by simp only at p1; omega⟩
  simp only at k1 h1 q1 p1
  refine gfn_intro [0] hm Tryz.func256 (by kernel_rfl) rfl (by kernel_rfl) rfl (by simp) (by simp) ?_
  simp
  refine CallZ.useM [0] [] [] k1 (by simp) rfl rfl (by simp) rfl rfl rfl (.inl rfl) ?_
  simp
  refine loop_uptoGL hm [7] K (fun i (y : List Ingot × Src) => ⟨[(0, .pb 0 0), (3, .sf 1 1), (4, .int .i64 K), (5, .sf 2 5), (6, .int .i64 i), (34, .own 0)], [y.2.box, some (.arr 1 (strRows ingNames)), some (.arr 5 (Ingot.rows y.1))]⟩)
    (fun i y => IngD y.1 ∧ y.1.length = i ∧ y.2.ok (m + 2 + 6 * i)) (by kernel_rfl) ⟨([], s1), ⟨⟨by simp, by simp, by simp⟩, rfl, h1⟩, ?_⟩ (fun i y hi hI => ?_) (fun y hI => ?_)
  · refine (weak_nil (t := 5) (z := 5) rfl).trans (Wk.weak (ρ := [0, 1, 2]) (φ := []) ?_)
    simp [Ingot.rows, strRows, ingNames]
  · obtain ⟨l, s2⟩ := y
    obtain ⟨hD, hl, h2⟩ := hI
    simp only at hD hl h2 ⊢
    have hi7 : i < 7 := by omega
    have hlt : i < ingNames.length := hi7
    simp [show (i : Int) < K by omega]
    refine ends_loose hm 10 [8, 9] [[], [], [0, 1], [2], [], [4], [5], [6], [3, 7], []] [17, 18, 19, 20, 21, 22, 23, 24, 25, 7]
      (fun (y : Src × Bool) => [y.1.box, some (.arr 1 (strRows ingNames)), some (.arr 5 (Ingot.rows l))] ++ (bif y.2 then [some (.box [.str [], .int .i64 0, .int .i64 0, .int .i64 0, .int .i64 0])] else []))
      (fun E y => y.1.ok (m + 2 + 6 * i + 2) ∧ (¬ E 5 → y.1.ok (m + 2 + 6 * i)) ∧ (y.2 = true ↔ E 9))
      (fun j p => match j with
        | 0 => p = .sf 1 1
        | 1 => p = .int .i64 i
        | 2 => p = .pa 1 1 i 0
        | 3 => p = .str ingNames[i]
        | 4 => p = .pb 0 0
        | 5 => ∃ k : Int, 0 ≤ k ∧ k < 90 ∧ p = .int .i64 k
        | 6 => ∃ k : Int, 0 ≤ k ∧ k < 90 ∧ p = .int .i64 (1 + k)
        | 7 => ∃ k : Int, 0 ≤ k ∧ k ≤ 90000 ∧ p = .int .i64 k
        | 8 => ∃ k : Int, 0 ≤ k ∧ k ≤ 90000 ∧ p = .agg [.str ingNames[i], .int .i64 k, .int .i64 0, .int .i64 0, .int .i64 0]
        | 9 => p = .pb 3 0
        | _ => True) (by kernel_rfl) (s2, false) ⟨h2.mono (by omega) (by omega), fun _ => h2, by simp⟩ ?_ (by simp) ?_
    · have keep : ∀ {E : Nat → Prop} {y : Src × Bool} {j : Nat}, j ≠ 5 → j ≠ 9 → y.1.ok (m + 2 + 6 * i + 2) ∧ (¬ E 5 → y.1.ok (m + 2 + 6 * i)) ∧ (y.2 = true ↔ E 9) → y.1.ok (m + 2 + 6 * i + 2) ∧ (¬ (E 5 ∨ 5 = j) → y.1.ok (m + 2 + 6 * i)) ∧ (y.2 = true ↔ E 9 ∨ 9 = j) := fun {E y j} h5 h9 hJ => ⟨hJ.1, fun h => hJ.2.1 fun h' => h (.inl h'), hJ.2.2.trans ⟨.inl, fun h => h.resolve_right (Ne.symm h9)⟩⟩
      refine And.intro (fun E fr y hE hJ hb hd _ _ => ?_) (And.intro (fun E fr y hE hJ hb hd _ _ => ?_) (And.intro (fun E fr y hE hJ hb hd _ _ => ?_) (And.intro (fun E fr y hE hJ hb hd _ _ => ?_) (And.intro (fun E fr y hE hJ hb hd _ _ => ?_) (And.intro (fun E fr y hE hJ hb hd _ _ => ?_) (And.intro (fun E fr y hE hJ hb hd _ _ => ?_) (And.intro (fun E fr y hE hJ hb hd _ _ => ?_) (And.intro (fun E fr y hE hJ hb hd _ _ => ?_) (And.intro (fun E fr y hE hJ hb hd _ _ => ?_) trivial)))))))))
      · have b := hb 3 (by decide)
        simp [slot] at b
        simp [b]
        exact .inl ⟨_, y, rfl, rfl, keep (by decide) (by decide) hJ⟩
      · have b := hb 6 (by decide)
        simp [slot] at b
        simp [b]
        exact .inl ⟨_, y, rfl, rfl, keep (by decide) (by decide) hJ⟩
      · have d0 := hd 0 (by simp)
        have d1 := hd 1 (by simp)
        simp at d0 d1
        obtain ⟨s3, c⟩ := y
        cases c <;> simp [d0, d1, strRows_len, hlt] <;> exact .inl ⟨_, (s3, _), rfl, rfl, keep (by decide) (by decide) hJ⟩
      · have d0 := hd 2 (by simp)
        simp at d0
        obtain ⟨s3, c⟩ := y
        cases c <;> simp [d0, strRows_len, strRows_get, hlt] <;> exact .inl ⟨_, (s3, _), rfl, rfl, keep (by decide) (by decide) hJ⟩
      · have b := hb 0 (by decide)
        simp [slot] at b
        simp [b]
        exact .inl ⟨_, y, rfl, rfl, keep (by decide) (by decide) hJ⟩
      · have d0 := hd 4 (by simp)
        simp at d0
        obtain ⟨s3, c⟩ := y
        have h3 := hJ.2.1 hE
        have k5 := c_pick h3 (by omega) 90
        obtain ⟨p5, q5, h5⟩ := h3.pick (by omega) 90
        have q5 := q5 (by omega)
        simp [d0]
        cases c <;> refine CallZ.useM [0] [] [] k5 (by simp) rfl rfl (by simp) rfl rfl rfl (.inl rfl) ?_ <;>
          exact .inl ⟨_, ((s3.pick 90).2, _), rfl, ⟨_, p5, q5, rfl⟩, h5, fun h => absurd (.inr rfl) h, hJ.2.2.trans ⟨.inl, fun h => h.resolve_right (by decide)⟩⟩
      · obtain ⟨k, k0, k1, e⟩ := hd 5 (by simp)
        simp at e
        simp [e]
        rw [w64 (by omega) (by omega)]
        exact .inl ⟨_, y, rfl, ⟨k, k0, k1, rfl⟩, keep (by decide) (by decide) hJ⟩
      · obtain ⟨k, k0, k1, e⟩ := hd 6 (by simp)
        simp at e
        simp [e]
        rw [w64 (by omega) (by omega)]
        exact .inl ⟨_, y, rfl, ⟨_, by omega, by omega, rfl⟩, keep (by decide) (by decide) hJ⟩
      · have d0 := hd 3 (by simp)
        obtain ⟨k, k0, k1, e⟩ := hd 7 (by simp)
        simp at d0 e
        simp [d0, e]
        exact .inl ⟨_, y, rfl, ⟨k, k0, k1, rfl⟩, keep (by decide) (by decide) hJ⟩
      · obtain ⟨s3, c⟩ := y
        cases c
        · simp
          exact .inl ⟨_, (s3, true), rfl, rfl, hJ.1, fun h => hJ.2.1 fun h' => h (.inl h'), ⟨fun _ => .inr rfl, fun _ => rfl⟩⟩
        · exact absurd (hJ.2.2.1 rfl) hE
    · intro vs y hJ hs
      obtain ⟨s3, c⟩ := y
      obtain rfl : c = true := hJ.2.2.2 (by decide)
      obtain ⟨k, k0, k1, e8⟩ := hs 8 (by decide)
      have e9 := hs 9 (by decide)
      simp only at e8 e9
      have h3 := hJ.1
      simp [e8, e9]
      refine CallZ.useG [0] [] [] (c_l13DrawAlloy h3 (by omega)) (by simp) rfl (by simp) rfl (fun x _ => ⟨rfl, rfl, rfl, .inl rfl⟩) (fun x hx => ?_)
      obtain ⟨⟨cu, ti, ot⟩, s4⟩ := x
      simp only at hx
      have w1 : IntKind.i64.wrap ((i : Int) + 1) = (i : Int) + 1 := w64 (by omega) (by omega)
      simp [Alloy.cells, Ingot.rows_len, hl]
      refine ⟨by simp [rowsOne], by omega, by omega, (l ++ [⟨ingNames[i], k, cu, ti, ot⟩], s4), ⟨hD.snoc hl hi7 k0 k1, by simp [hl], hx.mono (by omega) (by omega)⟩, Wk.weak (ρ := [0, 1, 2]) (φ := []) ?_⟩
      simp [w1, Ingot.rows, Ingot.cells]
  · obtain ⟨l, s2⟩ := y
    obtain ⟨hD, hl, h2⟩ := hI
    simp
    refine ⟨(l, s2), ⟨hD, h2.mono (by omega) (by omega)⟩, Wk.weak (ρ := [0]) (φ := [2]) ?_⟩
    simp

/-! ### Melts -/
/-- Melts, n at most, none of them long. -/
def MelD (n : Nat) (ms : List Melt) : Prop := ms.length ≤ n ∧ ∀ x ∈ ms, x.ingots.length ≤ 16
theorem nilTup {H : Heap} {z : Nat} {c : Int} : Weak ⟨[(0, .tup [.nils, .int .i64 c])], H⟩ ⟨[(0, .tup [.sl z [], .int .i64 c])], []⟩ :=
  (weak_nilT (t := 0) 0 z rfl rfl).trans (Wk.weak (ρ := []) (φ := [H.length]) (by simp))
set_option maxHeartbeats 8000000 in
theorem c_l14DrawOne {m : Nat} {s : Src} (h : s.ok m) (hb : m + 50 ≤ 4611686018427387904) (l : List Ingot) (hl : IngD l) : GFn Tryz.prog 258 [.pb 0 0, .sl 5 (Ingot.rows l)] [s.box] [0] (fun x : Melt × Src => x.1.ingots.length ≤ 16 ∧ x.2.ok (m + 50)) (fun x => .agg x.1.cells) (fun x => [x.2.box]) := by
  have hlen := hl.len
  have k1 := c_textS h (by omega) [[109, 49], [109, 50], [109, 51], [109, 52]] (by simp) (by simp)
  have h1 := h.text (by omega) [[109, 49], [109, 50], [109, 51], [109, 52]]
  generalize s.text [[109, 49], [109, 50], [109, 51], [109, 52]] = a at k1 h1
  obtain ⟨id, s1⟩ := a
  simp only at k1 h1
  refine gfn_intro [0] hm Tryz.func258 (by kernel_rfl) rfl (by kernel_rfl) rfl (by simp) (by simp) ?_
  simp
  refine CallZ.useM [0, 2] [] [] k1 (by simp [strRows]) rfl rfl (by simp) rfl rfl rfl (.inl rfl) ?_
  simp
  refine loop_uptoG hm l.length (fun i (y : List (List UInt8) × Src) => ⟨[(0, .pb 0 0), (1, .sl 5 (Ingot.rows l)), (4, .pb 1 0), (5, .pb 2 0), (6, .int .i64 i), (49, .own 0)], [y.2.box, some (.box [.str [], .nils, .int .i64 0]), some (.box [.str id, .sf 3 1, .int .i64 0]), some (.arr 1 (strRows y.1))]⟩)
    (fun i y => y.1.length ≤ i ∧ y.2.ok (m + 2 + 2 * i)) (by kernel_rfl) ⟨([], s1), ⟨by simp, h1⟩, ?_⟩ (fun i y hi hI => ?_) (fun y hI => ?_)
  · refine (weak_nilB 3 1 1 rfl rfl).trans (Wk.weak (ρ := [0, 1, 3, 4]) (φ := []) ?_)
    simp [strRows]
  · obtain ⟨L, s2⟩ := y
    obtain ⟨hL, h2⟩ := hI
    simp only at hL h2 ⊢
    have k2 := c_one h2 (by omega) 3
    obtain ⟨_, _, h3⟩ := h2.pick (by omega) 3
    generalize s2.pick 3 = b at k2 h3
    obtain ⟨b1, b2⟩ := b
    simp only at k2 h3
    have w1 : IntKind.i64.wrap ((i : Int) + 1) = (i : Int) + 1 := w64 (by omega) (by omega)
    simp [Ingot.rows_len, hi]
    refine CallZ.useM [0] [] [] k2 (by simp) rfl rfl (by simp) rfl rfl rfl (.inl rfl) ?_
    simp
    refine ⟨fun g => ?_, fun g => ?_⟩
    · simp [Ingot.rows, Ingot.cells, hi, strRows_len]
      refine ⟨by simp [rowsOne], rfl, by omega, by omega, (L ++ [l[i].id], b2), ⟨by simp; omega, h3.mono (by omega) (by omega)⟩, Wk.weak (ρ := [0, 1, 2, 3]) (φ := []) ?_⟩
      simp [w1, strRows]
    · refine ⟨(L, b2), ⟨by simp only; omega, h3.mono (by omega) (by omega)⟩, Wk.weak (ρ := [0, 1, 2, 3]) (φ := []) ?_⟩
      simp [w1]
  · obtain ⟨L, s2⟩ := y
    obtain ⟨hL, h2⟩ := hI
    simp only at hL h2 ⊢
    have k3 := c_among h2 (by omega) [0, 0, 1000, -1, -2, 500] (by simp) (by simp)
    have h3 := h2.among (by omega) [0, 0, 1000, -1, -2, 500]
    generalize s2.among [0, 0, 1000, -1, -2, 500] = b at k3 h3
    obtain ⟨b1, b2⟩ := b
    simp only at k3 h3
    by_cases h0 : L = []
    · subst h0
      have km := c_l14Metal l ⟨id, [[97]], 0⟩ [[.str id, .sl 1 (strRows [[97]]), .int .i64 0]] 0 rfl hl.ok.len (by simp) hl.ok.rise
      generalize metalN l (⟨id, [[97]], 0⟩ : Melt).ingots = v at km
      simp [Ingot.rows_len, strRows]
      refine CallZ.use0 km rfl rfl ?_
      simp
      refine CallZ.useM [0, 5] [] [] k3 (by simp [intRows]) rfl rfl (by simp) rfl rfl rfl (.inl rfl) ?_
      simp
      refine CallZ.use0 (c_l00Max _ _) rfl rfl ?_
      simp
      refine ⟨(⟨id, [[97]], max 1 (IntKind.i64.wrap (IntKind.i64.wrap (v - IntKind.i64.wrap (v.tdiv 50)) - b1))⟩, b2), ⟨by simp, h3.mono (by omega) (by omega)⟩, Wk.weak (ρ := [0]) (φ := [4]) ?_⟩
      simp [Melt.cells, strRows]
    · have hne : ¬ L.length = 0 := fun e => h0 (List.eq_nil_of_length_eq_zero e)
      have km := c_l14Metal l ⟨id, L, 0⟩ [[.str id, .sl 1 (strRows L), .int .i64 0]] 0 rfl hl.ok.len (by simp only; omega) hl.ok.rise
      generalize metalN l (⟨id, L, 0⟩ : Melt).ingots = v at km
      simp [Ingot.rows_len, strRows_len, h0]
      refine CallZ.use0 km rfl rfl ?_
      simp
      refine CallZ.useM [0, 4] [] [] k3 (by simp [intRows]) rfl rfl (by simp) rfl rfl rfl (.inl rfl) ?_
      simp
      refine CallZ.use0 (c_l00Max _ _) rfl rfl ?_
      simp
      refine ⟨(⟨id, L, max 1 (IntKind.i64.wrap (IntKind.i64.wrap (v - IntKind.i64.wrap (v.tdiv 50)) - b1))⟩, b2), ⟨by simp only; omega, h3.mono (by omega) (by omega)⟩, Wk.weak (ρ := [0]) (φ := [3]) ?_⟩
      simp [Melt.cells]

theorem c_l14Own (x : Melt) (rows : List (List PV)) (i0 : Nat) (hr : rows[i0]? = some x.cells) (hx : x.ingots.length ≤ 1048576) : HFn Tryz.prog 303 [.pe 3 rows i0 0] [] (.agg x.cells) [] := by
  have hi0 : i0 < rows.length := (List.getElem?_eq_some_iff.1 hr).1
  have hx0 : rows[i0] = x.cells := (List.getElem?_eq_some_iff.1 hr).2
  rw [Melt.cells] at hr hx0
  refine hfn_intro hm Tryz.func303 (by kernel_rfl) rfl (by kernel_rfl) rfl (fun _ _ h => h) ?_
  simp [hi0, hx0]
  have ho : rowsOne (strRows x.ingots) := fun r hr => by obtain ⟨_, _, rfl⟩ := List.mem_map.1 hr; rfl
  have hll := strRows_len x.ingots
  refine ⟨ho, by omega, by omega, Wk.weak (ρ := []) (φ := [1]) ?_⟩
  simp [Melt.cells]

theorem c_l14All (l : List Ingot) (ms : List Melt) (hl : IngOk l) {n : Nat} (hn : n ≤ 1048575) (hs : MelD n ms) : GFn Tryz.prog 301 [.sl 5 (Ingot.rows l), .sl 3 (Melt.rows ms)] [] [] (fun _ : Int => True) (fun c => .int .i64 c) (fun _ => []) := by
  obtain ⟨hs1, hs2⟩ := hs
  have k1 := c_l13Ok l hl.len
  have k2 := c_l14Ok ms (by omega) (fun x hx => by have := hs2 x hx; omega)
  have fin : ∀ {H : Heap} (c : Int), ∃ y : Int, True ∧ Weak ⟨[(0, .int .i64 c)], H⟩ ⟨[(0, .int .i64 y)], []⟩ := fun c => ⟨c, trivial, Wk.weak (ρ := []) (φ := []) (by simp)⟩
  refine gfn_intro [] hm Tryz.func301 (by kernel_rfl) rfl (by kernel_rfl) rfl (by simp) (by simp) ?_
  cases h1 : ingotsOk l
  · rw [h1] at k1
    simp
    refine CallZ.use0 k1 rfl rfl ?_
    simp
    refine CallY.use (res := .bool false) (fun h => by cases h) rfl rfl ?_
    simp
    exact fin _
  · rw [h1] at k1
    simp
    refine CallZ.use0 k1 rfl rfl ?_
    simp
    refine CallY.use (fun _ => ⟨rfl, k2⟩) rfl rfl ?_
    cases meltsOk ms
    · simp
      exact fin _
    · simp
      refine loop_upto hm ms.length (fun i => ⟨[(0, .sl 5 (Ingot.rows l)), (1, .sl 3 (Melt.rows ms)), (5, .int .i64 i)], []⟩) (fun _ => True) (by kernel_rfl) ?_ trivial (fun i hi _ => ?_) (fun _ => ?_)
      · exact Wk.weak (ρ := []) (φ := []) (by simp)
      · have w1 : IntKind.i64.wrap ((i : Int) + 1) = (i : Int) + 1 := w64 (by omega) (by omega)
        simp [Melt.rows_len, hi]
        refine CallZ.use (c_l14Chosen l ms[i] (Melt.rows ms) i (by simp [Melt.rows, hi]) hl.len (by have := hs2 ms[i] (List.getElem_mem hi); omega) hl.rise) rfl (.inr ⟨flat_intRows _, trivial⟩) rfl rfl ?_
        simp
        refine ⟨fun _ => fin _, fun _ => Wk.weak (ρ := []) (φ := []) ?_⟩
        simp [w1]
      · simp [Melt.rows_len]
        exact fin _

theorem c_l14Ask (l : List Ingot) (x : Melt) (rows : List (List PV)) (i0 : Nat) (hr : rows[i0]? = some x.cells) (hl : IngOk l) (hx : x.ingots.length ≤ 16) : GFn Tryz.prog 302 [.sl 5 (Ingot.rows l), .pe 3 rows i0 0] [] [] (fun _ : Int => True) (fun c => .int .i64 c) (fun _ => []) := by
  have k1 := c_l13Ok l hl.len
  have k2 := c_l14One x rows i0 hr (by omega)
  have k3 := c_l14Chosen l x rows i0 hr hl.len (by omega) hl.rise
  have fin : ∀ {H : Heap} (c : Int), ∃ y : Int, True ∧ Weak ⟨[(0, .int .i64 c)], H⟩ ⟨[(0, .int .i64 y)], []⟩ := fun c => ⟨c, trivial, Wk.weak (ρ := []) (φ := []) (by simp)⟩
  refine gfn_intro [] hm Tryz.func302 (by kernel_rfl) rfl (by kernel_rfl) rfl (by simp) (by simp) ?_
  cases h1 : ingotsOk l
  · rw [h1] at k1
    simp
    refine CallZ.use0 k1 rfl rfl ?_
    simp
    refine CallY.use (res := .bool false) (fun h => by cases h) rfl rfl ?_
    simp
    exact fin _
  · rw [h1] at k1
    simp
    refine CallZ.use0 k1 rfl rfl ?_
    simp
    refine CallY.use (fun _ => ⟨rfl, k2⟩) rfl rfl ?_
    cases meltOk x
    · simp
      exact fin _
    · simp
      refine CallZ.use k3 rfl (.inr ⟨flat_intRows _, trivial⟩) rfl rfl ?_
      simp
      exact ⟨fun _ => fin _, fun _ => fin _⟩

theorem c_AddMelt (l : List Ingot) (ms : List Melt) (x : Melt) (hl : IngOk l) {n : Nat} (hn : n ≤ 1000) (hs : MelD n ms) (hx : x.ingots.length ≤ 16) : GFn Tryz.prog 257 [.sl 5 (Ingot.rows l), .sl 3 (Melt.rows ms), .agg x.cells] [] [] (fun y : List Melt × Int => MelD (n + 1) y.1) (fun y => .tup [.sl 3 (Melt.rows y.1), .int .i64 y.2]) (fun _ => []) := by
  have hs' := hs
  obtain ⟨hs1, hs2⟩ := hs
  have hr : [x.cells][0]? = some x.cells := rfl
  have kA := c_l14All l ms hl (by omega) hs'
  have k1 := c_l14One x [x.cells] 0 hr (by omega)
  have kB := c_l14Ask l x [x.cells] 0 hr hl hx
  have kM := c_l14Most l x [x.cells] 0 hr hl hx
  have kO := c_l14Own x [x.cells] 0 hr (by omega)
  have fin : ∀ {H : Heap} (c : Int), ∃ y : List Melt × Int, MelD (n + 1) y.1 ∧ Weak ⟨[(0, .tup [.nils, .int .i64 c])], H⟩ ⟨[(0, .tup [.sl 3 (Melt.rows y.1), .int .i64 y.2])], []⟩ := fun c => ⟨([], c), ⟨by simp, by simp⟩, nilTup⟩
  simp only [Melt.cells] at k1 kB kM kO
  refine gfn_introL [0] [] hm Tryz.func257 (by kernel_rfl) rfl (by kernel_rfl) rfl (by simp) (by simp) ?_
  simp [Melt.cells]
  refine ends_cut 1 (by kernel_rfl) ?_
  simp
  refine ⟨⟨[(0, .sl 5 (Ingot.rows l)), (1, .sl 3 (Melt.rows ms)), (5, .pe 3 [[.str x.id, .sl 1 (strRows x.ingots), .int .i64 x.mass]] 0 0)], []⟩, Wk.weak (ρ := []) (φ := [0]) (by simp), ?_⟩
  simp
  refine CallZ.useG [] [] [] kA (by simp) rfl (by simp) rfl (fun x _ => ⟨rfl, rfl, rfl, .inl rfl⟩) (fun c _ => ?_)
  simp
  by_cases hc : c = 1
  · simp [hc]
    refine CallY.use (res := .bool false) (fun h => by cases h) rfl rfl ?_
    simp
    exact fin _
  simp [hc]
  refine CallY.use (fun _ => ⟨rfl, k1⟩) rfl rfl ?_
  cases meltOk x
  · simp
    exact fin _
  simp
  refine CallZ.useG [] [] [] kB (by simp) rfl (by simp) rfl (fun x _ => ⟨rfl, rfl, rfl, .inl rfl⟩) (fun c2 _ => ?_)
  simp
  by_cases hc0 : c = 0
  · by_cases hc2 : c2 = 0
    · simp [hc0, hc2]
      refine CallZ.use0 kM rfl rfl ?_
      simp
      refine ⟨fun _ => fin _, fun _ => ?_⟩
      refine loop_upto hm ms.length (fun i => ⟨[(0, .sl 5 (Ingot.rows l)), (1, .sl 3 (Melt.rows ms)), (5, .pe 3 [[.str x.id, .sl 1 (strRows x.ingots), .int .i64 x.mass]] 0 0), (10, .int .i64 i)], []⟩) (fun _ => True) (by kernel_rfl) ?_ trivial (fun i hi _ => ?_) (fun _ => ?_)
      · exact Wk.weak (ρ := []) (φ := []) (by simp)
      · have w1 : IntKind.i64.wrap ((i : Int) + 1) = (i : Int) + 1 := w64 (by omega) (by omega)
        simp [Melt.rows_len, Melt.row_get, Melt.cells, hi]
        refine ⟨fun _ => fin _, fun _ => Wk.weak (ρ := []) (φ := []) ?_⟩
        simp [w1]
      · simp [Melt.rows_len]
        refine loop_upto hm ms.length (fun i => ⟨[(0, .sl 5 (Ingot.rows l)), (1, .sl 3 (Melt.rows ms)), (5, .pe 3 [[.str x.id, .sl 1 (strRows x.ingots), .int .i64 x.mass]] 0 0), (11, .int .i64 i)], []⟩) (fun _ => True) (by kernel_rfl) ?_ trivial (fun i hi _ => ?_) (fun _ => ?_)
        · exact Wk.weak (ρ := []) (φ := []) (by simp)
        · have w1 : IntKind.i64.wrap ((i : Int) + 1) = (i : Int) + 1 := w64 (by omega) (by omega)
          simp [Melt.rows_len, hi]
          refine CallZ.use0 (c_l14Common ms[i] x (Melt.rows ms) [x.cells] i 0 (by simp [Melt.rows, hi]) rfl (by have := hs2 ms[i] (List.getElem_mem hi); omega) (by omega)) rfl rfl ?_
          simp
          refine ⟨fun _ => fin _, fun _ => Wk.weak (ρ := []) (φ := []) ?_⟩
          simp [w1]
        · simp [Melt.rows_len]
          refine ⟨fun _ => fin _, fun _ => ?_⟩
          refine loop_uptoG hm ms.length (fun i (y : List Melt × Bool) => ⟨[(0, .sl 5 (Ingot.rows l)), (1, .sl 3 (Melt.rows ms)), (5, .pe 3 [[.str x.id, .sl 1 (strRows x.ingots), .int .i64 x.mass]] 0 0), (12, .sf 0 3), (13, .bool y.2), (14, .int .i64 i)], [some (.arr 3 (Melt.rows y.1))]⟩)
            (fun i y => y.1.length ≤ i + 1 ∧ (y.2 = false → y.1.length ≤ i) ∧ ∀ z ∈ y.1, z.ingots.length ≤ 16) (by kernel_rfl) ⟨([], false), ⟨by simp, by simp, by simp⟩, ?_⟩ (fun i y hi hI => ?_) (fun y hI => ?_)
          · exact (weak_nil (t := 12) (z := 3) rfl).trans (Wk.weak (ρ := [0]) (φ := []) (by simp [Melt.rows]))
          · obtain ⟨M, d⟩ := y
            obtain ⟨hM, hMd, hMz⟩ := hI
            simp only at hM hMd hMz
            have w1 : IntKind.i64.wrap ((i : Int) + 1) = (i : Int) + 1 := w64 (by omega) (by omega)
            have hz := hs2 ms[i] (List.getElem_mem hi)
            have kI := c_l14Own ms[i] (Melt.rows ms) i (by simp [Melt.rows, hi]) (by omega)
            simp only [Melt.cells] at kI
            have hz' : ∀ z ∈ M ++ [ms[i]], z.ingots.length ≤ 16 := fun z hz2 => by
              rcases List.mem_append.1 hz2 with h | h
              · exact hMz z h
              · rw [List.mem_singleton.1 h]; exact hz
            have app : ∀ (M : List Melt) (z : Melt), Melt.rows M ++ [[PV.str z.id, .sl 1 (strRows z.ingots), .int .i64 z.mass]] = Melt.rows (M ++ [z]) := fun M z => by simp [Melt.rows, Melt.cells]
            cases d
            · have hMd := hMd rfl
              simp [Melt.rows_len, Melt.row_get, Melt.cells, hi]
              refine ⟨fun _ _ => ?_, fun _ => ?_⟩
              · refine CallZ.use0 kO rfl rfl ?_
                simp [Melt.rows_len, hi]
                refine ⟨by simp [rowsOne], by omega, by omega, ?_⟩
                refine CallZ.use0 kI rfl rfl ?_
                simp [Melt.rows_len]
                refine ⟨by simp [rowsOne], by omega, by omega, (M ++ [x] ++ [ms[i]], true), ⟨by simp; omega, by simp, fun z hz2 => ?_⟩, Wk.weak (ρ := [0]) (φ := []) ?_⟩
                · simp at hz2
                  rcases hz2 with h | rfl | rfl
                  · exact hMz z h
                  · exact hx
                  · exact hz
                · simp [w1]
                  simp [Melt.rows, Melt.cells]
              · refine CallZ.use0 kI rfl rfl ?_
                simp [Melt.rows_len]
                refine ⟨by simp [rowsOne], by omega, by omega, (M ++ [ms[i]], false), ⟨by simp; omega, by simp; omega, hz'⟩, Wk.weak (ρ := [0]) (φ := []) ?_⟩
                simp [w1, app]
            · simp [Melt.rows_len, hi]
              refine CallZ.use0 kI rfl rfl ?_
              simp [Melt.rows_len]
              refine ⟨by simp [rowsOne], by omega, by omega, (M ++ [ms[i]], true), ⟨by simp; omega, by simp, hz'⟩, Wk.weak (ρ := [0]) (φ := []) ?_⟩
              simp [w1, app]
          · obtain ⟨M, d⟩ := y
            obtain ⟨hM, hMd, hMz⟩ := hI
            simp only at hM hMd hMz
            cases d
            · have hMd := hMd rfl
              simp [Melt.rows_len]
              refine CallZ.use0 kO rfl rfl ?_
              simp [Melt.rows_len]
              refine ⟨by simp [rowsOne], by omega, by omega, (M ++ [x], 0), ⟨by simp; omega, fun z hz2 => ?_⟩, Wk.weak (ρ := []) (φ := [0]) ?_⟩
              · rcases List.mem_append.1 hz2 with h | h
                · exact hMz z h
                · rw [List.mem_singleton.1 h]; exact hx
              · simp [Melt.rows, Melt.cells]
            · simp [Melt.rows_len]
              exact ⟨(M, 0), ⟨by simp only; omega, hMz⟩, Wk.weak (ρ := []) (φ := [0]) (by simp)⟩
    · simp [hc0, hc2]
      exact fin _
  · simp [hc0]
    exact fin _

theorem c_l14DrawOk {m : Nat} {s : Src} (h : s.ok m) (hb : m + 300 ≤ 4611686018427387904) : GFn Tryz.prog 180 [.pb 0 0] [s.box] [0] (fun x : List Ingot × List Melt × Src => IngD x.1 ∧ MelD 5 x.2.1 ∧ x.2.2.ok (m + 300)) (fun x => .tup [.sl 5 (Ingot.rows x.1), .sl 3 (Melt.rows x.2.1)]) (fun x => [x.2.2.box]) := by
  refine gfn_intro [0] hm Tryz.func180 (by kernel_rfl) rfl (by kernel_rfl) rfl (by simp) (by simp) ?_
  simp
  refine CallZ.useG [0] [] [] (c_l13Draw h (by omega)) (by simp) rfl (by simp) rfl (fun x _ => ⟨rfl, rfl, rfl, .inl rfl⟩) (fun x hx => ?_)
  obtain ⟨l, s1⟩ := x
  obtain ⟨hl, h1⟩ := hx
  simp only at hl h1 ⊢
  have k1 := c_pick h1 (by omega) 5
  obtain ⟨p1, q1, h2⟩ := h1.pick (by omega) 5
  generalize s1.pick 5 = b at k1 p1 q1 h2
  have q1 := q1 (by omega)
  obtain ⟨c1, s2⟩ := b
  obtain ⟨K, rfl⟩ : ∃ K : Nat, c1 = K := ⟨c1.toNat, by simp only at p1; omega⟩
  simp only at k1 h2 q1 p1
  simp
  refine CallZ.useM [0] [] [] k1 (by simp) rfl rfl (by simp) rfl rfl rfl (.inl rfl) ?_
  simp
  refine loop_uptoG hm K (fun i (y : List Melt × Src) => ⟨[(0, .pb 0 0), (4, .sl 5 (Ingot.rows l)), (5, .sl 3 (Melt.rows y.1)), (6, .int .i64 ((K : Int) - i)), (32, .own 0)], [y.2.box]⟩)
    (fun i y => MelD i y.1 ∧ y.2.ok (m + 52 + 50 * i)) (by kernel_rfl) ⟨([], s2), ⟨⟨by simp, by simp⟩, h2⟩, ?_⟩ (fun i y hi hI => ?_) (fun y hI => ?_)
  · refine (weak_nil (t := 5) (z := 3) rfl).trans (Wk.weak (ρ := [0]) (φ := [1]) ?_)
    simp [Melt.rows]
  · obtain ⟨M, s3⟩ := y
    obtain ⟨hM, h3⟩ := hI
    simp only at hM h3 ⊢
    have w1 : IntKind.i64.wrap ((K : Int) - i - 1) = (K : Int) - (i + 1) := by rw [w64 (by omega) (by omega)]; omega
    simp [show (i : Int) < K by omega]
    refine CallZ.useG [0] [] [] (c_l14DrawOne h3 (by omega) l hl) (by simp) rfl (by simp) rfl (fun x _ => ⟨rfl, rfl, rfl, .inl rfl⟩) (fun x hx => ?_)
    obtain ⟨x, s4⟩ := x
    obtain ⟨hx, h4⟩ := hx
    simp only at hx h4 ⊢
    have kA := c_AddMelt l M x hl.ok (by omega) hM hx
    simp only [Melt.cells] at kA
    simp [Melt.cells]
    refine CallZ.useG [] [] [] kA (by simp) rfl (by simp) rfl (fun x _ => ⟨rfl, rfl, rfl, .inl rfl⟩) (fun y hy => ?_)
    obtain ⟨M', c⟩ := y
    simp only at hy
    simp
    refine ⟨fun _ => ⟨(M', s4), ⟨hy, h4.mono (by omega) (by omega)⟩, Wk.weak (ρ := [0]) (φ := []) ?_⟩, fun _ => ⟨(M, s4), ⟨⟨by have := hM.1; simp only; omega, hM.2⟩, h4.mono (by omega) (by omega)⟩, Wk.weak (ρ := [0]) (φ := []) ?_⟩⟩
    · simp [w1]
    · simp [w1]
  · obtain ⟨M, s3⟩ := y
    obtain ⟨hM, h3⟩ := hI
    simp only at hM h3 ⊢
    simp
    refine ⟨(l, M, s3), ⟨hl, ⟨by have := hM.1; simp only; omega, hM.2⟩, h3.mono (by omega) (by omega)⟩, Wk.weak (ρ := [0]) (φ := []) ?_⟩
    simp
end Go.Proofs.YtcjpfjklhhclmaaGreatDoor
