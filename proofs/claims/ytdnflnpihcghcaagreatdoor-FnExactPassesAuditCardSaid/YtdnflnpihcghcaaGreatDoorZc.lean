/- Swings of hung bells: contracts. No condition. -/
import Derived.Test.YtdnflnpihcghcaaGreatDoorZb
namespace Go.Proofs.YtdnflnpihcghcaaGreatDoor
open Go Go.Ab
set_option maxRecDepth 100000

theorem c_impl_ValidHung (h : Hung) : HFn Tryz.prog 217 [.agg h.cells] [] (.bool (hungOk h)) [] := by
  refine hfn_intro hm Tryz.func217 (by kernel_rfl) rfl (by kernel_rfl) rfl ret0_ok ?_
  simp [Hung.cells]
  refine CallZ.use0 (c_impl_IsName _) rfl rfl ?_
  simp
  first | refine CallY.use (fun _ => ⟨rfl, c_isMass _⟩) rfl rfl ?_ | refine ⟨by intros; simp [*], CallY.use (fun _ => ⟨rfl, c_isMass _⟩) rfl rfl ?_⟩
  simp
  first | refine CallY.use (fun _ => ⟨rfl, c_within _ _ _⟩) rfl rfl ?_ | refine ⟨by intros; simp [*], CallY.use (fun _ => ⟨rfl, c_within _ _ _⟩) rfl rfl ?_⟩
  simp
  first | refine CallY.use (fun _ => ⟨rfl, c_within _ _ _⟩) rfl rfl ?_ | refine ⟨by intros; simp [*], CallY.use (fun _ => ⟨rfl, c_within _ _ _⟩) rfl rfl ?_⟩
  simp
  first | refine CallY.use (fun _ => ⟨rfl, c_within _ _ _⟩) rfl rfl ?_ | refine ⟨by intros; simp [*], CallY.use (fun _ => ⟨rfl, c_within _ _ _⟩) rfl rfl ?_⟩
  simp [hungOk]
theorem c_l19Ok (h : Hung) (rows : List (List PV)) (i : Nat) (hr : rows[i]? = some h.cells) : HFn Tryz.prog 94 [.pe 5 rows i 0] [] (.bool (hungOk h)) [] := by
  have hi : i < rows.length := (List.getElem?_eq_some_iff.1 hr).1
  have hx : rows[i] = h.cells := by rw [List.getElem?_eq_getElem hi] at hr; exact Option.some.inj hr
  refine hfn_intro hm Tryz.func94 (by kernel_rfl) rfl (by kernel_rfl) rfl ret0_ok ?_
  rw [Hung.cells] at hr hx
  simp [hi, hx]
  refine CallZ.use0 (c_spec_l01Name _) rfl rfl ?_
  simp [hi, hx]
  first | refine CallY.use (fun _ => ⟨rfl, c_l00In _ _ _⟩) rfl rfl ?_ | refine ⟨by intros; simp [*], CallY.use (fun _ => ⟨rfl, c_l00In _ _ _⟩) rfl rfl ?_⟩
  simp [hi, hx]
  first | refine CallY.use (fun _ => ⟨rfl, c_l00In _ _ _⟩) rfl rfl ?_ | refine ⟨by intros; simp [*], CallY.use (fun _ => ⟨rfl, c_l00In _ _ _⟩) rfl rfl ?_⟩
  simp [hi, hx]
  first | refine CallY.use (fun _ => ⟨rfl, c_l00In _ _ _⟩) rfl rfl ?_ | refine ⟨by intros; simp [*], CallY.use (fun _ => ⟨rfl, c_l00In _ _ _⟩) rfl rfl ?_⟩
  simp [hi, hx]
  first | refine CallY.use (fun _ => ⟨rfl, c_l00In _ _ _⟩) rfl rfl ?_ | refine ⟨by intros; simp [*], CallY.use (fun _ => ⟨rfl, c_l00In _ _ _⟩) rfl rfl ?_⟩
  simp [hungOk]
theorem c_validSwing (s : Swing) : HFn Tryz.prog 231 [.agg s.cells] [] (.bool (swingOk s)) [] := by
  refine hfn_intro hm Tryz.func231 (by kernel_rfl) rfl (by kernel_rfl) rfl ret0_ok ?_
  simp [Swing.cells]
  refine CallZ.use0 (c_impl_IsName _) rfl rfl ?_
  simp
  first | refine CallY.use (fun _ => ⟨rfl, c_within _ _ _⟩) rfl rfl ?_ | refine ⟨by intros; simp [*], CallY.use (fun _ => ⟨rfl, c_within _ _ _⟩) rfl rfl ?_⟩
  simp
  first | refine CallY.use (fun _ => ⟨rfl, c_within _ _ _⟩) rfl rfl ?_ | refine ⟨by intros; simp [*], CallY.use (fun _ => ⟨rfl, c_within _ _ _⟩) rfl rfl ?_⟩
  simp [swingOk]
theorem c_l22One (s : Swing) (rows : List (List PV)) (i : Nat) (hr : rows[i]? = some s.cells) : HFn Tryz.prog 161 [.pe 3 rows i 0] [] (.bool (swingOk s)) [] := by
  have hi : i < rows.length := (List.getElem?_eq_some_iff.1 hr).1
  have hx : rows[i] = s.cells := by rw [List.getElem?_eq_getElem hi] at hr; exact Option.some.inj hr
  refine hfn_intro hm Tryz.func161 (by kernel_rfl) rfl (by kernel_rfl) rfl ret0_ok ?_
  rw [Swing.cells] at hr hx
  simp [hi, hx]
  refine CallZ.use0 (c_spec_l01Name _) rfl rfl ?_
  simp [hi, hx]
  first | refine CallY.use (fun _ => ⟨rfl, c_l00In _ _ _⟩) rfl rfl ?_ | refine ⟨by intros; simp [*], CallY.use (fun _ => ⟨rfl, c_l00In _ _ _⟩) rfl rfl ?_⟩
  simp [hi, hx]
  first | refine CallY.use (fun _ => ⟨rfl, c_l00In _ _ _⟩) rfl rfl ?_ | refine ⟨by intros; simp [*], CallY.use (fun _ => ⟨rfl, c_l00In _ _ _⟩) rfl rfl ?_⟩
  simp [swingOk]

/-- Hung bell i of a list is valid, and stands behind the one before it. -/
def hungAt (l : List Hung) (i : Nat) : Bool := match l[i]? with
  | some x => hungOk x && (decide (i = 0) || match l[i - 1]? with
    | some y => Op.bytesLess y.bell x.bell
    | none => true)
  | none => true
def hungsOk (l : List Hung) : Bool := (List.range l.length).all (hungAt l) && decide ((l.length : Int) ≤ 16)
theorem hungs_mem {l : List Hung} (h : hungsOk l = true) : l.length ≤ 16 ∧ ∀ x ∈ l, hungOk x = true := by
  simp only [hungsOk, Bool.and_eq_true, List.all_eq_true, List.mem_range, decide_eq_true_eq] at h
  refine ⟨by omega, fun x hx => ?_⟩
  obtain ⟨i, hi, rfl⟩ := List.getElem_of_mem hx
  have := h.1 i hi
  simp only [hungAt, List.getElem?_eq_getElem hi, Bool.and_eq_true] at this
  exact this.1
theorem c_validHungs (l : List Hung) (hl : l.length ≤ 1048576) : HFn Tryz.prog 173 [.sl 5 (Hung.rows l)] [] (.bool (hungsOk l)) [] := by
  refine hfn_intro hm Tryz.func173 (by kernel_rfl) rfl (by kernel_rfl) rfl ret0_ok ?_
  simp [Hung.rows]
  refine loop_upto hm l.length (fun i => ⟨[(0, .sl 5 (Hung.rows l)), (5, .sl 5 (Hung.rows l)), (6, .int .i64 l.length), (7, .int .i64 i)], []⟩) (fun i => ∀ j, j < i → hungAt l j = true) (by kernel_rfl) ?_ (by simp) (fun i hi hI => ?_) (fun hI => ?_)
  · exact Wk.weak (ρ := []) (φ := []) (by simp [Hung.rows])
  · have e1 : IntKind.i64.wrap ((i : Int) - 1) = i - 1 := w64 (by omega) (by omega)
    obtain ⟨y, hy⟩ : ∃ y, l[i - 1]? = some y := ⟨_, List.getElem?_eq_getElem (by omega)⟩
    have hx := List.getElem?_eq_getElem hi
    have kv := c_impl_ValidHung l[i]
    simp only [Hung.cells] at kv
    simp [Hung.rows, Hung.cells, hi]
    refine CallZ.use0 kv rfl rfl ?_
    simp [Hung.cells, hy, e1]
    have ho : hungAt l i = (hungOk l[i] && (decide (i = 0) || Op.bytesLess y.bell l[i].bell)) := by simp [hungAt, hx, hy]
    have hs := bytesLess_swap y.bell l[i].bell
    iterate 6 refine ⟨by grind, ?_⟩
    refine ⟨fun h => ?_, fun h1 h2 => ⟨upto_succ hI ?_, ?_⟩⟩
    · have : hungAt l i = false := by
        rw [ho]
        rcases h with h | ⟨h, h'⟩
        · simp [h]
        · have h3 : (Op.bytesLess l[i].bell y.bell || decide (l[i].bell = y.bell)) = true := by simpa using h'
          rw [hs] at h3
          have h4 : ¬ i = 0 := by omega
          simp at h3
          simp [h3, h4]
      simp only [hungsOk, all_range_false hi this, Bool.false_and]
    · rw [ho]
      rw [h1, Bool.true_and]
      by_cases h4 : i = 0
      · simp [h4]
      · obtain ⟨h5, h6⟩ := h2 (by omega)
        simp [h5, h6] at hs
        simp [hs]
    · refine Wk.weak (ρ := []) (φ := []) ?_
      simp
      exact w64 (by omega) (by omega)
  · simp [Hung.rows]
    simp only [hungsOk, all_range_true hI, Bool.true_and]
theorem c_l31Hung (l : List Hung) (hl : l.length ≤ 1048576) : HFn Tryz.prog 52 [.sl 5 (Hung.rows l)] [] (.bool (hungsOk l)) [] := by
  refine hfn_intro hm Tryz.func52 (by kernel_rfl) rfl (by kernel_rfl) rfl ret0_ok ?_
  simp [Hung.rows]
  refine loop_upto hm l.length (fun i => ⟨[(0, .sl 5 (Hung.rows l)), (3, .int .i64 i)], []⟩) (fun i => ∀ j, j < i → hungAt l j = true) (by kernel_rfl) ?_ (by simp) (fun i hi hI => ?_) (fun hI => ?_)
  · exact Wk.weak (ρ := []) (φ := []) (by simp [Hung.rows])
  · have e1 : IntKind.i64.wrap ((i : Int) - 1) = i - 1 := w64 (by omega) (by omega)
    obtain ⟨y, hy⟩ : ∃ y, l[i - 1]? = some y := ⟨_, List.getElem?_eq_getElem (by omega)⟩
    have hx := List.getElem?_eq_getElem hi
    simp [Hung.rows, hi]
    refine CallZ.use0 (c_l19Ok l[i] _ _ (by simp [hi])) rfl rfl ?_
    simp [Hung.cells, hi, hy, e1]
    have ho : hungAt l i = (hungOk l[i] && (decide (i = 0) || Op.bytesLess y.bell l[i].bell)) := by simp [hungAt, hx, hy]
    iterate 6 refine ⟨by grind, ?_⟩
    refine ⟨fun h => ?_, fun h1 h2 => ⟨upto_succ hI ?_, ?_⟩⟩
    · have : hungAt l i = false := by
        rw [ho]
        rcases h with h | ⟨h, h'⟩
        · simp [h]
        · have h4 : ¬ i = 0 := by omega
          simp [h', h4]
      simp only [hungsOk, all_range_false hi this, Bool.false_and]
    · rw [ho, h1, Bool.true_and]
      by_cases h4 : i = 0
      · simp [h4]
      · simp [h2 (by omega)]
    · refine Wk.weak (ρ := []) (φ := []) ?_
      simp
      exact w64 (by omega) (by omega)
  · simp [Hung.rows]
    simp only [hungsOk, all_range_true hI, Bool.true_and]

theorem mid_nat {n : Nat} (h : n ≤ 1000) : Mid (n : Int) := ⟨by omega, by omega⟩
theorem c_greatestForce (h : Hung) (hk : hungOk h = true) : HFn Tryz.prog 267 [.agg h.cells, .fn 268 []] [] (.tup [.int .i64 (bestV h h.angle.toNat).1, .int .i64 (bestV h h.angle.toNat).2, .int .i64 0]) [] := by
  have k := hung_in hk
  have kv := c_impl_ValidHung h
  rw [hk] at kv
  have hh := fun d hd => c_horizontal h k d hd
  have g0 := k.g0
  have g1 := k.g1
  obtain ⟨G, hG⟩ : ∃ G : Nat, h.angle = G := ⟨h.angle.toNat, by omega⟩
  have hGn : h.angle.toNat = G := by omega
  rw [hGn]
  simp only [Hung.cells] at kv hh
  refine hfn_intro hm Tryz.func267 (by kernel_rfl) rfl (by kernel_rfl) rfl ret0_ok ?_
  simp [Hung.cells]
  refine CallZ.use0 kv rfl rfl ?_
  simp
  refine CallZ.use0 (hh 0 ⟨by decide, by decide⟩) rfl rfl ?_
  simp
  refine loop_upto hm G (fun i => ⟨[(1, .fn 268 []), (2, .pb 0 0), (7, .int .i64 (bestV h i).1), (8, .int .i64 (bestV h i).2), (9, .int .i64 ((i + 1 : Nat) : Int))], [some (.box [.str h.bell, .int .i64 h.mass, .int .i64 h.arm, .int .i64 h.form, .int .i64 h.angle])]⟩) (fun _ => True) (by kernel_rfl) ?_ trivial (fun i hi _ => ?_) (fun _ => ?_)
  · refine Wk.weak (ρ := [0]) (φ := []) ?_
    simp [bestV]
  · have w1 : IntKind.i64.wrap (((i + 1 : Nat) : Int) + 1) = ((i + 1 + 1 : Nat) : Int) := by rw [w64 (by omega) (by omega)]; omega
    have hc := hh ((i + 1 : Nat) : Int) (mid_nat (by omega))
    have hB : bestV h (i + 1) = if (bestV h i).1 < horV h ((i + 1 : Nat) : Int) then (horV h ((i + 1 : Nat) : Int), ((i + 1 : Nat) : Int)) else bestV h i := rfl
    have hle : ((i + 1 : Nat) : Int) ≤ h.angle := by omega
    obtain ⟨d, hd⟩ : ∃ d, d = ((i + 1 : Nat) : Int) := ⟨_, rfl⟩
    rw [← hd] at w1 hc hB hle ⊢
    simp [hle]
    refine CallZ.use0 hc rfl rfl ?_
    simp
    refine ⟨fun g => ?_, fun g => ?_⟩
    · rw [if_pos g] at hB
      refine Wk.weak (ρ := [0]) (φ := []) ?_
      simp [hB, w1]
    · rw [if_neg (by omega)] at hB
      refine Wk.weak (ρ := [0]) (φ := []) ?_
      simp [hB, w1]
  · have hgt : ¬ ((G + 1 : Nat) : Int) ≤ h.angle := by omega
    obtain ⟨d, hd⟩ : ∃ d, d = ((G + 1 : Nat) : Int) := ⟨_, rfl⟩
    rw [← hd] at hgt ⊢
    simp [hgt]
theorem c_GreatestHorizontal (h : Hung) (hk : hungOk h = true) : HFn Tryz.prog 229 [.agg h.cells] [] (.tup [.int .i64 (bestV h h.angle.toNat).1, .int .i64 (bestV h h.angle.toNat).2, .int .i64 0]) [] := by
  have kg := c_greatestForce h hk
  simp only [Hung.cells] at kg
  refine hfn_intro hm Tryz.func229 (by kernel_rfl) rfl (by kernel_rfl) rfl ret0_ok ?_
  simp [Hung.cells]
  refine CallZ.use0 kg rfl rfl ?_
  simp
/-- The greatest force before angle i. -/
def prevB (h : Hung) : Nat → Int × Int
  | 0 => (0, 0)
  | i + 1 => bestV h i
theorem c_l19Most (h : Hung) (hk : hungOk h = true) (rows : List (List PV)) (j : Nat) (hr : rows[j]? = some h.cells) : HFn Tryz.prog 157 [.pe 5 rows j 0, .bool false] [] (.tup [.int .i64 (bestV h h.angle.toNat).1, .int .i64 (bestV h h.angle.toNat).2]) [] := by
  have k := hung_in hk
  have hi : j < rows.length := (List.getElem?_eq_some_iff.1 hr).1
  have hx : rows[j] = h.cells := by rw [List.getElem?_eq_getElem hi] at hr; exact Option.some.inj hr
  have hh := fun d hd => c_l19Horizontal h k d hd rows j hr
  have g0 := k.g0
  have g1 := k.g1
  obtain ⟨G, hG⟩ : ∃ G : Nat, h.angle = G := ⟨h.angle.toNat, by omega⟩
  have hGn : h.angle.toNat = G := by omega
  rw [hGn]
  rw [Hung.cells] at hx
  refine hfn_intro hm Tryz.func157 (by kernel_rfl) rfl (by kernel_rfl) rfl ret0_ok ?_
  simp
  refine loop_upto hm (G + 1) (fun i => ⟨[(0, .pe 5 rows j 0), (1, .bool false), (6, .int .i64 (prevB h i).1), (7, .int .i64 (prevB h i).2), (8, .int .i64 i)], []⟩) (fun _ => True) (by kernel_rfl) ?_ trivial (fun i hi2 _ => ?_) (fun _ => ?_)
  · exact Wk.weak (ρ := []) (φ := []) (by simp [prevB])
  · have w1 : IntKind.i64.wrap ((i : Int) + 1) = (i : Int) + 1 := w64 (by omega) (by omega)
    have hc := hh (i : Int) (mid_nat (by omega))
    have hle : (i : Int) ≤ h.angle := by omega
    have hB : prevB h (i + 1) = bestV h i := rfl
    simp [hi, hx, hle]
    refine CallZ.use0 hc rfl rfl ?_
    cases i with
    | zero =>
      simp
      refine Wk.weak (ρ := []) (φ := []) ?_
      simp [prevB, bestV]
      exact w64 (by omega) (by omega)
    | succ i =>
      have hP : prevB h (i + 1) = bestV h i := rfl
      have hb2 : bestV h (i + 1) = if (bestV h i).1 < horV h ((i + 1 : Nat) : Int) then (horV h ((i + 1 : Nat) : Int), ((i + 1 : Nat) : Int)) else bestV h i := rfl
      have hd0 : ¬ ((i + 1 : Nat) : Int) = 0 := by omega
      rw [hB, hP]
      obtain ⟨d, hd⟩ : ∃ d, d = ((i + 1 : Nat) : Int) := ⟨_, rfl⟩
      rw [← hd] at w1 hb2 hd0 ⊢
      have hd2 : ((i + 1 + 1 : Nat) : Int) = d + 1 := by omega
      simp [hd0]
      refine ⟨fun g => ?_, fun g => ?_⟩
      · rw [if_pos g] at hb2
        refine Wk.weak (ρ := []) (φ := []) ?_
        simp [hb2, hd]
        exact w64 (by omega) (by omega)
      · rw [if_neg (by omega)] at hb2
        refine Wk.weak (ρ := []) (φ := []) ?_
        simp [hb2, hd]
        exact w64 (by omega) (by omega)
  · have hgt : ¬ ((G : Int) + 1) ≤ h.angle := by omega
    have hP : prevB h (G + 1) = bestV h G := rfl
    rw [hP]
    simp [hi, hx, hgt]

theorem c_swingLength (h : Hung) (k : HungIn h) : HFn Tryz.prog 269 [.agg h.cells] [] (.int .i64 (lenOf h)) [] := by
  have h1 := k.a0
  have h2 := k.a1
  have h3 := k.f0
  have h4 := k.f1
  have w1 : IntKind.i64.wrap (1000 * h.arm) = 1000 * h.arm := w64 (by omega) (by omega)
  refine hfn_intro hm Tryz.func269 (by kernel_rfl) rfl (by kernel_rfl) rfl ret0_ok ?_
  simp [Hung.cells, w1]
  refine CallZ.use0 (c_nearest _ _ ⟨by omega, by omega⟩ (by omega) (by omega)) rfl rfl ?_
  simp [lenOf]
theorem half_le {h : Hung} (k : HungIn h) : Mid (h.angle.tdiv 2) ∧ IntKind.i64.wrap (h.angle.tdiv 2) = h.angle.tdiv 2 := by
  have h1 := k.g0
  have h2 := k.g1
  have e : h.angle.tdiv 2 = h.angle / 2 := Int.tdiv_eq_ediv_of_nonneg (by omega)
  refine ⟨⟨by omega, by omega⟩, ?_⟩
  rw [e]
  exact w64 (by omega) (by omega)
set_option maxHeartbeats 1000000 in
theorem c_periodOf (h : Hung) (k : HungIn h) : HFn Tryz.prog 230 [.agg h.cells] [] (.int .i64 (perV h)) [] := by
  obtain ⟨l0, l1⟩ := len_le k
  obtain ⟨r0, r1, n0, n1⟩ := r_le k
  obtain ⟨s0, s1, q0, q1⟩ := q_le h
  obtain ⟨y0, y1, z0, z1, p0, p1⟩ := per_le k
  obtain ⟨m1, m2⟩ := half_le k
  have kl := c_swingLength h k
  have kr := c_RootOf ((40243 * lenOf h).tdiv 100) ⟨by omega, by omega⟩ n0
  have er : rootV ((40243 * lenOf h).tdiv 100) = rOf h := rfl
  rw [er] at kr
  have ks := c_SineOf (h.angle.tdiv 2) m1
  have kn := c_nearest (rOf h * (16000 * qOf h + 9 * qOf h * qOf h)) 64000000 ⟨by omega, by omega⟩ (by decide) (by decide)
  have hp : perV h = rOf h + nearV (rOf h * (16000 * qOf h + 9 * qOf h * qOf h)) 64000000 := rfl
  have hq : (sinV (h.angle.tdiv 2) * sinV (h.angle.tdiv 2)).tdiv 1000 = qOf h := rfl
  have w1 : IntKind.i64.wrap (40243 * lenOf h) = 40243 * lenOf h := w64 (by omega) (by omega)
  have w2 : IntKind.i64.wrap ((40243 * lenOf h).tdiv 100) = (40243 * lenOf h).tdiv 100 := w64 (by omega) (by omega)
  have w3 : IntKind.i64.wrap (sinV (h.angle.tdiv 2) * sinV (h.angle.tdiv 2)) = sinV (h.angle.tdiv 2) * sinV (h.angle.tdiv 2) := w64 (by omega) (by omega)
  have w4 : IntKind.i64.wrap (qOf h) = qOf h := w64 (by omega) (by omega)
  have w5 : IntKind.i64.wrap (16000 * qOf h) = 16000 * qOf h := w64 (by omega) (by omega)
  have w6 : IntKind.i64.wrap (9 * qOf h) = 9 * qOf h := w64 (by omega) (by omega)
  have w7 : IntKind.i64.wrap (9 * qOf h * qOf h) = 9 * qOf h * qOf h := w64 (by omega) (by omega)
  have w8 : IntKind.i64.wrap (16000 * qOf h + 9 * qOf h * qOf h) = 16000 * qOf h + 9 * qOf h * qOf h := w64 (by omega) (by omega)
  have w9 : IntKind.i64.wrap (rOf h * (16000 * qOf h + 9 * qOf h * qOf h)) = rOf h * (16000 * qOf h + 9 * qOf h * qOf h) := w64 (by omega) (by omega)
  have wa : IntKind.i64.wrap (perV h) = perV h := w64 (by omega) (by omega)
  simp only [Hung.cells] at kl
  refine hfn_intro hm Tryz.func230 (by kernel_rfl) rfl (by kernel_rfl) rfl ret0_ok ?_
  simp [Hung.cells]
  refine CallZ.use0 kl rfl rfl ?_
  simp [w1, w2]
  refine CallZ.use0 kr rfl rfl ?_
  simp [m2]
  refine CallZ.use0 ks rfl rfl ?_
  simp [w3, hq, w4, w5, w6, w7, w8, w9]
  refine CallZ.use0 kn rfl rfl ?_
  simp [← hp, wa]
set_option maxHeartbeats 1000000 in
theorem c_l19Period (h : Hung) (k : HungIn h) (rows : List (List PV)) (j : Nat) (hr : rows[j]? = some h.cells) : HFn Tryz.prog 160 [.pe 5 rows j 0] [] (.int .i64 (perV h)) [] := by
  have hi : j < rows.length := (List.getElem?_eq_some_iff.1 hr).1
  have hx : rows[j] = h.cells := by rw [List.getElem?_eq_getElem hi] at hr; exact Option.some.inj hr
  have h1 := k.a0
  have h2 := k.a1
  have h3 := k.f0
  have h4 := k.f1
  obtain ⟨l0, l1⟩ := len_le k
  obtain ⟨r0, r1, n0, n1⟩ := r_le k
  obtain ⟨s0, s1, q0, q1⟩ := q_le h
  obtain ⟨y0, y1, z0, z1, p0, p1⟩ := per_le k
  obtain ⟨m1, m2⟩ := half_le k
  have kl := c_l01Div (1000 * h.arm) h.form ⟨by omega, by omega⟩ (by omega) (by omega)
  have el : nearV (1000 * h.arm) h.form = lenOf h := rfl
  rw [el] at kl
  have kr := c_l01Root ((40243 * lenOf h).tdiv 100) ⟨by omega, by omega⟩ n0
  have er : rootV ((40243 * lenOf h).tdiv 100) = rOf h := rfl
  rw [er] at kr
  have ks := c_l19Sine (h.angle.tdiv 2) m1
  have kn := c_l01Div (rOf h * (16000 * qOf h + 9 * qOf h * qOf h)) 64000000 ⟨by omega, by omega⟩ (by decide) (by decide)
  have hp : perV h = rOf h + nearV (rOf h * (16000 * qOf h + 9 * qOf h * qOf h)) 64000000 := rfl
  have hq : (sinV (h.angle.tdiv 2) * sinV (h.angle.tdiv 2)).tdiv 1000 = qOf h := rfl
  have w0 : IntKind.i64.wrap (1000 * h.arm) = 1000 * h.arm := w64 (by omega) (by omega)
  have w1 : IntKind.i64.wrap (40243 * lenOf h) = 40243 * lenOf h := w64 (by omega) (by omega)
  have w2 : IntKind.i64.wrap ((40243 * lenOf h).tdiv 100) = (40243 * lenOf h).tdiv 100 := w64 (by omega) (by omega)
  have w3 : IntKind.i64.wrap (sinV (h.angle.tdiv 2) * sinV (h.angle.tdiv 2)) = sinV (h.angle.tdiv 2) * sinV (h.angle.tdiv 2) := w64 (by omega) (by omega)
  have w4 : IntKind.i64.wrap (qOf h) = qOf h := w64 (by omega) (by omega)
  have w5 : IntKind.i64.wrap (16000 * qOf h) = 16000 * qOf h := w64 (by omega) (by omega)
  have w6 : IntKind.i64.wrap (9 * qOf h) = 9 * qOf h := w64 (by omega) (by omega)
  have w7 : IntKind.i64.wrap (9 * qOf h * qOf h) = 9 * qOf h * qOf h := w64 (by omega) (by omega)
  have w8 : IntKind.i64.wrap (16000 * qOf h + 9 * qOf h * qOf h) = 16000 * qOf h + 9 * qOf h * qOf h := w64 (by omega) (by omega)
  have w9 : IntKind.i64.wrap (rOf h * (16000 * qOf h + 9 * qOf h * qOf h)) = rOf h * (16000 * qOf h + 9 * qOf h * qOf h) := w64 (by omega) (by omega)
  have wa : IntKind.i64.wrap (perV h) = perV h := w64 (by omega) (by omega)
  refine hfn_intro hm Tryz.func160 (by kernel_rfl) rfl (by kernel_rfl) rfl ret0_ok ?_
  rw [Hung.cells] at hx
  simp [hi, hx, w0]
  refine CallZ.use0 kl rfl rfl ?_
  simp [w1, w2]
  refine CallZ.use0 kr rfl rfl ?_
  simp [hi, hx, m2]
  refine CallZ.use0 ks rfl rfl ?_
  simp [w3, hq, w4, w5, w6, w7, w8, w9]
  refine CallZ.use0 kn rfl rfl ?_
  simp [← hp, wa]
end Go.Proofs.YtdnflnpihcghcaaGreatDoor
