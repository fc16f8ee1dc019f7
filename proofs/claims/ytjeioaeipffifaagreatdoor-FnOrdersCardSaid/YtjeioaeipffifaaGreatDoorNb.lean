/- Contracts: orders that are drawn. No condition. -/
import Derived.Test.YtjeioaeipffifaaGreatDoorFa
import Derived.Test.YtjeioaeipffifaaGreatDoorNa
namespace Go.Proofs.YtjeioaeipffifaaGreatDoor
open Go Go.Ab
set_option maxRecDepth 100000

theorem orders_iff {l : List Order} : validOrders l = true ↔ (∀ x ∈ l, validOrder x = true) ∧ l.Pairwise (fun a b => Op.bytesLess a.id b.id = true) ∧ l.length ≤ 12 := by
  constructor
  · intro h
    refine ⟨fun x hx => valid_mem h hx, List.pairwise_iff_getElem.2 fun i j hi hj hij => ?_, validOrders_le h⟩
    rw [bytesLess_lt]
    simpa using valid_lt h hij hj
  · rintro ⟨h1, h2, h3⟩
    simp only [validOrders, Bool.and_eq_true, List.all_eq_true, List.mem_range, decide_eq_true_eq]
    refine ⟨fun i hi => ?_, by omega⟩
    simp only [orderAt, List.getElem?_eq_getElem hi, h1 _ (List.getElem_mem hi), Bool.true_and]
    by_cases h0 : i = 0
    · simp [h0]
    · have hp : i - 1 < l.length := by omega
      simp only [h0, decide_false, Bool.false_or, List.getElem?_eq_getElem hp]
      exact List.pairwise_iff_getElem.1 h2 (i - 1) i hp hi (by omega)

theorem addCode_ok {l : List Order} {x : Order} (h : addCode l x = 0) : validOrders l = true ∧ validOrder x = true ∧ findO l x.id < 0 ∧ l.length < 12 := by
  unfold addCode at h
  split at h
  · rename_i hv
    split at h
    · omega
    · split at h
      · omega
      · have := validOrders_le hv.1
        exact ⟨hv.1, hv.2, by omega, by omega⟩
  · omega
theorem addL_valid {l : List Order} {x : Order} (h : addCode l x = 0) : validOrders (addL l x) = true := by
  obtain ⟨hv, hx, hf, hl⟩ := addCode_ok h
  have hL : addL l x = l.take (cutO l x.id) ++ x :: l.drop (cutO l x.id) := by unfold addL; rw [if_pos h]
  obtain ⟨h1, h2, h3⟩ := orders_iff.1 hv
  have hlo : ∀ y ∈ l.take (cutO l x.id), Op.bytesLess y.id x.id = true := fun y hy => by
    obtain ⟨i, hi, rfl⟩ := List.getElem_of_mem hy
    rw [List.length_take] at hi
    have := cut_gt hv hf i (by omega)
    rw [decide_eq_true (show i < cutO l x.id by omega)] at this
    rw [List.getElem_take]
    have hne := findO_no hf i (by omega)
    simpa [hne] using this
  have hhi : ∀ y ∈ l.drop (cutO l x.id), Op.bytesLess x.id y.id = true := fun y hy => by
    obtain ⟨i, hi, rfl⟩ := List.getElem_of_mem hy
    rw [List.length_drop] at hi
    have := cut_gt hv hf (cutO l x.id + i) (by omega)
    have e : decide (cutO l x.id + i < cutO l x.id) = false := by simp
    rw [e, bytesLess_swap] at this
    rw [List.getElem_drop]
    simpa using this
  rw [hL]
  refine orders_iff.2 ⟨fun y hy => ?_, ?_, ?_⟩
  · rcases List.mem_append.1 hy with hy | hy
    · exact h1 y (List.mem_of_mem_take hy)
    · rcases List.mem_cons.1 hy with rfl | hy
      · exact hx
      · exact h1 y (List.mem_of_mem_drop hy)
  · rw [List.pairwise_append]
    refine ⟨h2.sublist (List.take_sublist _ _), List.pairwise_cons.2 ⟨hhi, h2.sublist (List.drop_sublist _ _)⟩, fun a ha b hb => ?_⟩
    rcases List.mem_cons.1 hb with rfl | hb
    · exact hlo a ha
    · have h4 := hlo a ha
      have h5 := hhi b hb
      rw [bytesLess_lt] at h4 h5 ⊢
      simp only [decide_eq_true_eq] at h4 h5 ⊢
      exact List.lt_trans h4 h5
  · rw [List.length_append, List.length_take, List.length_cons, List.length_drop]
    omega

/-- An order that is drawn. -/
def Src.order (s : Src) : Order × Src :=
  let a := s.text [[97], [98], [99], [100], [101], [102]]
  let b := a.2.pick 900
  let c := b.2.pick 40
  let d := c.2.pick 20
  let e := d.2.pick 90
  let k := e.2.pick 30
  if k.1 = 0 then (⟨a.1, (k.2.among [0, 1, 20000000, 20000001]).1, 50 + c.1, 1 + d.1, e.1⟩, (k.2.among [0, 1, 20000000, 20000001]).2)
  else if k.1 = 1 then (⟨a.1, 1000 * (1 + b.1), 50 + c.1, (k.2.among [0, 100, 101]).1, e.1⟩, (k.2.among [0, 100, 101]).2)
  else if k.1 = 2 then (⟨a.1, 1000 * (1 + b.1), 50 + c.1, 1 + d.1, (k.2.among [-1, 10000, 10001]).1⟩, (k.2.among [-1, 10000, 10001]).2)
  else if k.1 = 3 then (⟨a.1, 1000 * (1 + b.1), (k.2.among [-1, 128]).1, 1 + d.1, e.1⟩, (k.2.among [-1, 128]).2)
  else (⟨a.1, 1000 * (1 + b.1), 50 + c.1, 1 + d.1, e.1⟩, k.2)
theorem Src.ok.order {m : Nat} {s : Src} (h : s.ok m) (hb : m + 14 ≤ 4611686018427387904) : s.order.2.ok (m + 14) := by
  have h1 := h.text (by omega) [[97], [98], [99], [100], [101], [102]]
  have h2 := (h1.pick (by omega) 900).2.2
  have h3 := (h2.pick (by omega) 40).2.2
  have h4 := (h3.pick (by omega) 20).2.2
  have h5 := (h4.pick (by omega) 90).2.2
  have h6 := (h5.pick (by omega) 30).2.2
  simp only [Src.order]
  split
  · exact h6.among (by omega) _
  · split
    · exact h6.among (by omega) _
    · split
      · exact h6.among (by omega) _
      · split
        · exact h6.among (by omega) _
        · exact h6.mono (by omega) hb

set_option maxHeartbeats 4000000 in
theorem c_l29DrawOne {m : Nat} {s : Src} (h : s.ok m) (hb : m + 14 ≤ 4611686018427387904) : MFn Tryz.prog 89 [.pb 0 0] [s.box] [0] (.agg s.order.1.cells) [s.order.2.box] := by
  simp only [Src.order]
  have k1 := c_textS h (by omega) [[97], [98], [99], [100], [101], [102]] (by simp) (by simp)
  have h1 := h.text (by omega) [[97], [98], [99], [100], [101], [102]]
  generalize s.text [[97], [98], [99], [100], [101], [102]] = a at k1 h1 ⊢
  have k2 := c_pick h1 (by omega) 900
  obtain ⟨p2, q2, h2⟩ := h1.pick (by omega) 900
  generalize a.2.pick 900 = b at k2 p2 q2 h2 ⊢
  have k3 := c_pick h2 (by omega) 40
  obtain ⟨p3, q3, h3⟩ := h2.pick (by omega) 40
  generalize b.2.pick 40 = c at k3 p3 q3 h3 ⊢
  have k4 := c_pick h3 (by omega) 20
  obtain ⟨p4, q4, h4⟩ := h3.pick (by omega) 20
  generalize c.2.pick 20 = d at k4 p4 q4 h4 ⊢
  have k5 := c_pick h4 (by omega) 90
  obtain ⟨p5, q5, h5⟩ := h4.pick (by omega) 90
  generalize d.2.pick 90 = e at k5 p5 q5 h5 ⊢
  have k6 := c_pick h5 (by omega) 30
  obtain ⟨p6, q6, h6⟩ := h5.pick (by omega) 30
  generalize e.2.pick 30 = k at k6 p6 q6 h6 ⊢
  have q2 := q2 (by omega)
  have q3 := q3 (by omega)
  have q4 := q4 (by omega)
  have w1 : IntKind.i64.wrap (1 + b.1) = 1 + b.1 := w64 (by omega) (by omega)
  have w2 : IntKind.i64.wrap (1000 * (1 + b.1)) = 1000 * (1 + b.1) := w64 (by omega) (by omega)
  have w3 : IntKind.i64.wrap (50 + c.1) = 50 + c.1 := w64 (by omega) (by omega)
  have w4 : IntKind.i64.wrap (1 + d.1) = 1 + d.1 := w64 (by omega) (by omega)
  refine mfn_intro [0] hm Tryz.func89 (by kernel_rfl) rfl (by kernel_rfl) rfl (retM_ok (ρ := [0]) (φ := [])) (by simp) ?_
  simp
  refine CallZ.useM [0, 2] [] [] k1 (by simp [strRows]) rfl rfl (by simp) rfl rfl rfl (.inl rfl) ?_
  simp
  refine CallZ.useM [0] [] [] k2 (by simp) rfl rfl (by simp) rfl rfl rfl (.inl rfl) ?_
  simp
  refine CallZ.useM [0] [] [] k3 (by simp) rfl rfl (by simp) rfl rfl rfl (.inl rfl) ?_
  simp
  refine CallZ.useM [0] [] [] k4 (by simp) rfl rfl (by simp) rfl rfl rfl (.inl rfl) ?_
  simp
  refine CallZ.useM [0] [] [] k5 (by simp) rfl rfl (by simp) rfl rfl rfl (.inl rfl) ?_
  simp
  refine CallZ.useM [0] [] [] k6 (by simp) rfl rfl (by simp) rfl rfl rfl (.inl rfl) ?_
  simp [w1, w2, w3, w4]
  by_cases g0 : k.1 = 0
  · simp [g0]
    refine CallZ.useM [0, 4] [] [] (c_among h6 (by omega) [0, 1, 20000000, 20000001] (by simp) (by simp)) (by simp [intRows]) rfl rfl (by simp) rfl rfl rfl (.inl rfl) ?_
    simp [Order.cells]
  by_cases g1 : k.1 = 1
  · simp [g1]
    refine CallZ.useM [0, 4] [] [] (c_among h6 (by omega) [0, 100, 101] (by simp) (by simp)) (by simp [intRows]) rfl rfl (by simp) rfl rfl rfl (.inl rfl) ?_
    simp [Order.cells]
  by_cases g2 : k.1 = 2
  · simp [g2]
    refine CallZ.useM [0, 4] [] [] (c_among h6 (by omega) [-1, 10000, 10001] (by simp) (by simp)) (by simp [intRows]) rfl rfl (by simp) rfl rfl rfl (.inl rfl) ?_
    simp [Order.cells]
  by_cases g3 : k.1 = 3
  · simp [g3]
    refine CallZ.useM [0, 4] [] [] (c_among h6 (by omega) [-1, 128] (by simp) (by simp)) (by simp [intRows]) rfl rfl (by simp) rfl rfl rfl (.inl rfl) ?_
    simp [Order.cells]
  simp [g0, g1, g2, g3, Order.cells]

/-- Orders that are drawn, i tries. -/
def Src.ordN (s : Src) : Nat → List Order × Src
  | 0 => ([], s)
  | i + 1 => (if addCode (ordN s i).1 (ordN s i).2.order.1 = 0 then addL (ordN s i).1 (ordN s i).2.order.1 else (ordN s i).1, (ordN s i).2.order.2)
def Src.orders (s : Src) : List Order × Src := (s.pick 7).2.ordN (s.pick 7).1.toNat
theorem Src.ok.ordN {m : Nat} {s : Src} (h : s.ok m) : ∀ i, m + 14 * i ≤ 4611686018427387904 → validOrders (s.ordN i).1 = true ∧ (s.ordN i).2.ok (m + 14 * i)
  | 0, _ => ⟨rfl, h⟩
  | i + 1, hb => by
    obtain ⟨h1, h2⟩ := Src.ok.ordN h i (by omega)
    refine ⟨?_, h2.order (by omega)⟩
    simp only [Src.ordN]
    split
    · rename_i hc; exact addL_valid hc
    · exact h1
theorem Src.ok.orders {m : Nat} {s : Src} (h : s.ok m) (hb : m + 100 ≤ 4611686018427387904) : validOrders s.orders.1 = true ∧ s.orders.2.ok (m + 100) := by
  obtain ⟨h1, h2, h3⟩ := h.pick (by omega) 7
  have h2 := h2 (by omega)
  obtain ⟨h4, h5⟩ := h3.ordN (s.pick 7).1.toNat (by omega)
  exact ⟨h4, h5.mono (by omega) hb⟩

set_option maxHeartbeats 4000000 in
theorem c_l29Draw {m : Nat} {s : Src} (h : s.ok m) (hb : m + 100 ≤ 4611686018427387904) : MFn Tryz.prog 40 [.pb 0 0] [s.box] [0] (.sf 1 5) [s.orders.2.box, some (.arr 5 (Order.rows s.orders.1))] := by
  have k1 := c_pick h (by omega) 7
  obtain ⟨p1, q1, h1⟩ := h.pick (by omega) 7
  unfold Src.orders
  generalize s.pick 7 = a at k1 p1 q1 h1 ⊢
  have q1 := q1 (by omega)
  obtain ⟨a1, a2⟩ := a
  obtain ⟨K, rfl⟩ : ∃ K : Nat, a1 = K := ⟨a1.toNat, by simp only at p1; omega⟩
  simp only [Int.toNat_natCast] at k1 h1 q1 ⊢
  refine mfn_intro [0] hm Tryz.func40 (by kernel_rfl) rfl (by kernel_rfl) rfl (retM_ok (ρ := [0, 1]) (φ := [])) (by simp) ?_
  simp
  refine CallZ.useM [0] [] [] k1 (by simp) rfl rfl (by simp) rfl rfl rfl (.inl rfl) ?_
  simp
  refine loop_upto hm K (fun i => ⟨[(0, .pb 0 0), (3, .sf 1 5), (4, .int .i64 ((K : Int) - i)), (25, .own 0)], [(a2.ordN i).2.box, some (.arr 5 (Order.rows (a2.ordN i).1))]⟩) (fun _ => True) (by kernel_rfl) ?_ trivial (fun i hi _ => ?_) (fun _ => ?_)
  · refine (weak_nil (t := 3) (z := 5) rfl).trans (Wk.weak (ρ := [0, 1]) (φ := []) ?_)
    simp [Src.ordN, Order.rows]
  · obtain ⟨hv, ho⟩ := h1.ordN i (by omega)
    have hx := ho.order (by omega)
    have kx := c_l29DrawOne ho (by omega)
    have hN : a2.ordN (i + 1) = (if addCode (a2.ordN i).1 (a2.ordN i).2.order.1 = 0 then addL (a2.ordN i).1 (a2.ordN i).2.order.1 else (a2.ordN i).1, (a2.ordN i).2.order.2) := rfl
    rw [hN]
    generalize a2.ordN i = b at hv ho hx kx ⊢
    generalize b.2.order = x at hx kx ⊢
    have hl := validOrders_le hv
    have w1 : IntKind.i64.wrap ((K : Int) - (i : Int) - 1) = (K : Int) - ((i : Int) + 1) := by rw [w64 (by omega) (by omega)]; omega
    simp [show (i : Int) < K by omega]
    refine CallZ.useM [0] [] [] kx (by simp) rfl rfl (by simp) rfl rfl (by simp) (.inl rfl) ?_
    simp [Order.cells]
    have kA := c_spec_AddOrder b.1 x.1 (by omega)
    simp only [Order.cells] at kA
    refine CallZ.use kA rfl (.inr ⟨Order.flat _, trivial⟩) rfl rfl ?_
    simp
    refine ⟨fun hc => ?_, fun hc => ?_⟩
    · refine Wk.weak (ρ := [0, 2]) (φ := []) ?_
      simp [hc, w1]
    · refine Wk.weak (ρ := [0, 1]) (φ := []) ?_
      simp [hc, w1]
  · simp

theorem c_R8Orders (code : List Int) (hc : ∀ c ∈ code, 0 ≤ c ∧ c < 256) (hl : code.length ≤ 9223372036854775807) : HFn Tryz.prog 7 [.sl 1 (byteRows code)] [] (.sf 0 5) [some (.arr 5 (Order.rows (Src.mk code 0 0).orders.1))] := by
  have h0 : (Src.mk code 0 0).ok 0 := ⟨hc, hl, by simp, by simp, by simp⟩
  refine hfn_intro hm Tryz.func7 (by kernel_rfl) rfl (by kernel_rfl) rfl (fun _ _ h => h) ?_
  simp
  refine CallZ.useM [] [] [] (c_l00From code) (by simp) rfl rfl (by simp) rfl rfl rfl (.inl rfl) ?_
  simp
  refine CallZ.useM [0] [] [] (c_l29Draw h0 (by omega)) (by simp) rfl rfl (by simp) rfl rfl rfl (.inl rfl) ?_
  simp
  refine Wk.weak (ρ := [1]) (φ := []) ?_
  simp
end Go.Proofs.YtjeioaeipffifaaGreatDoor
