/- Swings of hung bells: contracts. No condition. The swings of hung bells: contracts. No condition. -/
import Derived.Test.YtcjpfjklhhclmaaGreatDoorZb
namespace Go.Proofs.YtcjpfjklhhclmaaGreatDoor
open Go Go.Ab
set_option maxRecDepth 100000

theorem c_impl_ValidHung (h : Hung) : HFn Tryz.prog 132 [.agg h.cells] [] (.bool (hungOk h)) [] := by
  refine hfn_intro hm Tryz.func132 (by kernel_rfl) rfl (by kernel_rfl) rfl ret0_ok ?_
  simp [Hung.cells]
  refine CallZ.use0 (c_impl_IsName _) rfl rfl ?_
  simp
  first | refine CallY.use (fun _ => ⟨rfl, c_isMass _⟩) rfl rfl ?_ | refine ⟨by intros; simp [*], CallY.use (fun _ => ⟨rfl, c_isMass _⟩) rfl rfl ?_⟩
  simp
  first | refine CallY.use (fun _ => ⟨rfl, c_within _ _ _⟩) rfl rfl ?_ | refine ⟨by intros; simp [*], CallY.use (fun _ => ⟨rfl, c_within _ _ _⟩) rfl rfl ?_⟩
  simp
  first | refine CallY.use (fun _ => ⟨rfl, c_within _ _ _⟩) rfl rfl ?_ | refine ⟨by intros; simp [*], CallY.use (fun _ => ⟨rfl, c_within _ _ _⟩) rfl rfl ?_⟩
  simp
  first | refine CallY.use (fun _ => ⟨rfl, c_within _ _ _⟩) rfl rfl ?_ | refine ⟨by intros; simp [*], CallY.use (fun _ => ⟨rfl, c_within _ _ _⟩) rfl rfl ?_⟩
  simp [hungOk]
theorem c_l19Ok (h : Hung) (rows : List (List PV)) (i : Nat) (hr : rows[i]? = some h.cells) : HFn Tryz.prog 189 [.pe 5 rows i 0] [] (.bool (hungOk h)) [] := by
  have hi : i < rows.length := (List.getElem?_eq_some_iff.1 hr).1
  have hx : rows[i] = h.cells := by rw [List.getElem?_eq_getElem hi] at hr; exact Option.some.inj hr
  refine hfn_intro hm Tryz.func189 (by kernel_rfl) rfl (by kernel_rfl) rfl ret0_ok ?_
  rw [Hung.cells] at hr hx
  simp [hi, hx]
  refine CallZ.use0 (c_spec_l01Name _) rfl rfl ?_
  simp [hi, hx]
  first | refine CallY.use (fun _ => ⟨rfl, c_l00In _ _ _⟩) rfl rfl ?_ | refine ⟨by intros; simp [*], CallY.use (fun _ => ⟨rfl, c_l00In _ _ _⟩) rfl rfl ?_⟩
  simp [hi, hx]
  first | refine CallY.use (fun _ => ⟨rfl, c_l00In _ _ _⟩) rfl rfl ?_ | refine ⟨by intros; simp [*], CallY.use (fun _ => ⟨rfl, c_l00In _ _ _⟩) rfl rfl ?_⟩
  simp [hi, hx]
  first | refine CallY.use (fun _ => ⟨rfl, c_l00In _ _ _⟩) rfl rfl ?_ | refine ⟨by intros; simp [*], CallY.use (fun _ => ⟨rfl, c_l00In _ _ _⟩) rfl rfl ?_⟩
  simp [hi, hx]
  first | refine CallY.use (fun _ => ⟨rfl, c_l00In _ _ _⟩) rfl rfl ?_ | refine ⟨by intros; simp [*], CallY.use (fun _ => ⟨rfl, c_l00In _ _ _⟩) rfl rfl ?_⟩
  simp [hungOk]
theorem c_validSwing (s : Swing) : HFn Tryz.prog 136 [.agg s.cells] [] (.bool (swingOk s)) [] := by
  refine hfn_intro hm Tryz.func136 (by kernel_rfl) rfl (by kernel_rfl) rfl ret0_ok ?_
  simp [Swing.cells]
  refine CallZ.use0 (c_impl_IsName _) rfl rfl ?_
  simp
  first | refine CallY.use (fun _ => ⟨rfl, c_within _ _ _⟩) rfl rfl ?_ | refine ⟨by intros; simp [*], CallY.use (fun _ => ⟨rfl, c_within _ _ _⟩) rfl rfl ?_⟩
  simp
  first | refine CallY.use (fun _ => ⟨rfl, c_within _ _ _⟩) rfl rfl ?_ | refine ⟨by intros; simp [*], CallY.use (fun _ => ⟨rfl, c_within _ _ _⟩) rfl rfl ?_⟩
  simp [swingOk]
theorem c_l22One (s : Swing) (rows : List (List PV)) (i : Nat) (hr : rows[i]? = some s.cells) : HFn Tryz.prog 226 [.pe 3 rows i 0] [] (.bool (swingOk s)) [] := by
  have hi : i < rows.length := (List.getElem?_eq_some_iff.1 hr).1
  have hx : rows[i] = s.cells := by rw [List.getElem?_eq_getElem hi] at hr; exact Option.some.inj hr
  refine hfn_intro hm Tryz.func226 (by kernel_rfl) rfl (by kernel_rfl) rfl ret0_ok ?_
  rw [Swing.cells] at hr hx
  simp [hi, hx]
  refine CallZ.use0 (c_spec_l01Name _) rfl rfl ?_
  simp [hi, hx]
  first | refine CallY.use (fun _ => ⟨rfl, c_l00In _ _ _⟩) rfl rfl ?_ | refine ⟨by intros; simp [*], CallY.use (fun _ => ⟨rfl, c_l00In _ _ _⟩) rfl rfl ?_⟩
  simp [hi, hx]
  first | refine CallY.use (fun _ => ⟨rfl, c_l00In _ _ _⟩) rfl rfl ?_ | refine ⟨by intros; simp [*], CallY.use (fun _ => ⟨rfl, c_l00In _ _ _⟩) rfl rfl ?_⟩
  simp [swingOk]

/-- Hung bell i of a list is valid, and stands behind the one before it. -/
def hungAt (l : List Hung) (i : Nat) : Bool := match l[i]? with
  | some x => hungOk x && (decide (i = 0) || match l[i - 1]? with
    | some y => Op.bytesLess y.bell x.bell
    | none => true)
  | none => true
def hungsOk (l : List Hung) : Bool := (List.range l.length).all (hungAt l) && decide ((l.length : Int) ≤ 16)
theorem hungs_mem {l : List Hung} (h : hungsOk l = true) : l.length ≤ 16 ∧ ∀ x ∈ l, hungOk x = true := by
  simp only [hungsOk, Bool.and_eq_true, List.all_eq_true, List.mem_range, decide_eq_true_eq] at h
  refine ⟨by omega, fun x hx => ?_⟩
  obtain ⟨i, hi, rfl⟩ := List.getElem_of_mem hx
  have := h.1 i hi
  simp only [hungAt, List.getElem?_eq_getElem hi, Bool.and_eq_true] at this
  exact this.1
theorem c_validHungs (l : List Hung) (hl : l.length ≤ 1048576) : HFn Tryz.prog 47 [.sl 5 (Hung.rows l)] [] (.bool (hungsOk l)) [] := by
  refine hfn_intro hm Tryz.func47 (by kernel_rfl) rfl (by kernel_rfl) rfl ret0_ok ?_
  simp [Hung.rows]
  refine loop_upto hm l.length (fun i => ⟨[(0, .sl 5 (Hung.rows l)), (5, .sl 5 (Hung.rows l)), (6, .int .i64 l.length), (7, .int .i64 i)], []⟩) (fun i => ∀ j, j < i → hungAt l j = true) (by kernel_rfl) ?_ (by simp) (fun i hi hI => ?_) (fun hI => ?_)
  · exact Wk.weak (ρ := []) (φ := []) (by simp [Hung.rows])
  · have e1 : IntKind.i64.wrap ((i : Int) - 1) = i - 1 := w64 (by omega) (by omega)
    obtain ⟨y, hy⟩ : ∃ y, l[i - 1]? = some y := ⟨_, List.getElem?_eq_getElem (by omega)⟩
    have hx := List.getElem?_eq_getElem hi
    have kv := c_impl_ValidHung l[i]
    simp only [Hung.cells] at kv
    simp [Hung.rows, Hung.cells, hi]
    refine CallZ.use0 kv rfl rfl ?_
    simp [Hung.cells, hy, e1]
    have ho : hungAt l i = (hungOk l[i] && (decide (i = 0) || Op.bytesLess y.bell l[i].bell)) := by simp [hungAt, hx, hy]
    have hs := bytesLess_swap y.bell l[i].bell
    iterate 6 refine ⟨by grind, ?_⟩
    refine ⟨fun h => ?_, fun h1 h2 => ⟨upto_succ hI ?_, ?_⟩⟩
    · have : hungAt l i = false := by
        rw [ho]
        rcases h with h | ⟨h, h'⟩
        · simp [h]
        · have h3 : (Op.bytesLess l[i].bell y.bell || decide (l[i].bell = y.bell)) = true := by simpa using h'
          rw [hs] at h3
          have h4 : ¬ i = 0 := by omega
          simp at h3
          simp [h3, h4]
      simp only [hungsOk, all_range_false hi this, Bool.false_and]
    · rw [ho]
      rw [h1, Bool.true_and]
      by_cases h4 : i = 0
      · simp [h4]
      · obtain ⟨h5, h6⟩ := h2 (by omega)
        simp [h5, h6] at hs
        simp [hs]
    · refine Wk.weak (ρ := []) (φ := []) ?_
      simp
      exact w64 (by omega) (by omega)
  · simp [Hung.rows]
    simp only [hungsOk, all_range_true hI, Bool.true_and]
theorem c_l31Hung (l : List Hung) (hl : l.length ≤ 1048576) : HFn Tryz.prog 104 [.sl 5 (Hung.rows l)] [] (.bool (hungsOk l)) [] := by
  refine hfn_intro hm Tryz.func104 (by kernel_rfl) rfl (by kernel_rfl) rfl ret0_ok ?_
  simp [Hung.rows]
  refine loop_upto hm l.length (fun i => ⟨[(0, .sl 5 (Hung.rows l)), (3, .int .i64 i)], []⟩) (fun i => ∀ j, j < i → hungAt l j = true) (by kernel_rfl) ?_ (by simp) (fun i hi hI => ?_) (fun hI => ?_)
  · exact Wk.weak (ρ := []) (φ := []) (by simp [Hung.rows])
  · have e1 : IntKind.i64.wrap ((i : Int) - 1) = i - 1 := w64 (by omega) (by omega)
    obtain ⟨y, hy⟩ : ∃ y, l[i - 1]? = some y := ⟨_, List.getElem?_eq_getElem (by omega)⟩
    have hx := List.getElem?_eq_getElem hi
    simp [Hung.rows, hi]
    refine CallZ.use0 (c_l19Ok l[i] _ _ (by simp [hi])) rfl rfl ?_
    simp [Hung.cells, hi, hy, e1]
    have ho : hungAt l i = (hungOk l[i] && (decide (i = 0) || Op.bytesLess y.bell l[i].bell)) := by simp [hungAt, hx, hy]
    iterate 6 refine ⟨by grind, ?_⟩
    refine ⟨fun h => ?_, fun h1 h2 => ⟨upto_succ hI ?_, ?_⟩⟩
    · have : hungAt l i = false := by
        rw [ho]
        rcases h with h | ⟨h, h'⟩
        · simp [h]
        · have h4 : ¬ i = 0 := by omega
          simp [h', h4]
      simp only [hungsOk, all_range_false hi this, Bool.false_and]
    · rw [ho, h1, Bool.true_and]
      by_cases h4 : i = 0
      · simp [h4]
      · simp [h2 (by omega)]
    · refine Wk.weak (ρ := []) (φ := []) ?_
      simp
      exact w64 (by omega) (by omega)
  · simp [Hung.rows]
    simp only [hungsOk, all_range_true hI, Bool.true_and]

theorem mid_nat {n : Nat} (h : n ≤ 1000) : Mid (n : Int) := ⟨by omega, by omega⟩
theorem c_greatestForce (h : Hung) (hk : hungOk h = true) : HFn Tryz.prog 220 [.agg h.cells, .fn 221 []] [] (.tup [.int .i64 (bestV h h.angle.toNat).1, .int .i64 (bestV h h.angle.toNat).2, .int .i64 0]) [] := by
  have k := hung_in hk
  have kv := c_impl_ValidHung h
  rw [hk] at kv
  have hh := fun d hd => c_horizontal h k d hd
  have g0 := k.g0
  have g1 := k.g1
  obtain ⟨G, hG⟩ : ∃ G : Nat, h.angle = G := ⟨h.angle.toNat, by omega⟩
  have hGn : h.angle.toNat = G := by omega
  rw [hGn]
  simp only [Hung.cells] at kv hh
  refine hfn_intro hm Tryz.func220 (by kernel_rfl) rfl (by kernel_rfl) rfl ret0_ok ?_
  simp [Hung.cells]
  refine CallZ.use0 kv rfl rfl ?_
  simp
  refine CallZ.use0 (hh 0 ⟨by decide, by decide⟩) rfl rfl ?_
  simp
  refine loop_upto hm G (fun i => ⟨[(1, .fn 221 []), (2, .pb 0 0), (7, .int .i64 (bestV h i).1), (8, .int .i64 (bestV h i).2), (9, .int .i64 ((i + 1 : Nat) : Int))], [some (.box [.str h.bell, .int .i64 h.mass, .int .i64 h.arm, .int .i64 h.form, .int .i64 h.angle])]⟩) (fun _ => True) (by kernel_rfl) ?_ trivial (fun i hi _ => ?_) (fun _ => ?_)
  · refine Wk.weak (ρ := [0]) (φ := []) ?_
    simp [bestV]
  · have w1 : IntKind.i64.wrap (((i + 1 : Nat) : Int) + 1) = ((i + 1 + 1 : Nat) : Int) := by rw [w64 (by omega) (by omega)]; omega
    have hc := hh ((i + 1 : Nat) : Int) (mid_nat (by omega))
    have hB : bestV h (i + 1) = if (bestV h i).1 < horV h ((i + 1 : Nat) : Int) then (horV h ((i + 1 : Nat) : Int), ((i + 1 : Nat) : Int)) else bestV h i := rfl
    have hle : ((i + 1 : Nat) : Int) ≤ h.angle := by omega
    obtain ⟨d, hd⟩ : ∃ d, d = ((i + 1 : Nat) : Int) := ⟨_, rfl⟩
    rw [← hd] at w1 hc hB hle ⊢
    simp [hle]
    refine CallZ.use0 hc rfl rfl ?_
    simp
    refine ⟨fun g => ?_, fun g => ?_⟩
    · rw [if_pos g] at hB
      refine Wk.weak (ρ := [0]) (φ := []) ?_
      simp [hB, w1]
    · rw [if_neg (by omega)] at hB
      refine Wk.weak (ρ := [0]) (φ := []) ?_
      simp [hB, w1]
  · have hgt : ¬ ((G + 1 : Nat) : Int) ≤ h.angle := by omega
    obtain ⟨d, hd⟩ : ∃ d, d = ((G + 1 : Nat) : Int) := ⟨_, rfl⟩
    rw [← hd] at hgt ⊢
    simp [hgt]
theorem c_GreatestHorizontal (h : Hung) (hk : hungOk h = true) : HFn Tryz.prog 133 [.agg h.cells] [] (.tup [.int .i64 (bestV h h.angle.toNat).1, .int .i64 (bestV h h.angle.toNat).2, .int .i64 0]) [] := by
  have kg := c_greatestForce h hk
  simp only [Hung.cells] at kg
  refine hfn_intro hm Tryz.func133 (by kernel_rfl) rfl (by kernel_rfl) rfl ret0_ok ?_
  simp [Hung.cells]
  refine CallZ.use0 kg rfl rfl ?_
  simp
theorem c_swingLength (h : Hung) (k : HungIn h) : HFn Tryz.prog 224 [.agg h.cells] [] (.int .i64 (lenOf h)) [] := by
  have h1 := k.a0
  have h2 := k.a1
  have h3 := k.f0
  have h4 := k.f1
  have w1 : IntKind.i64.wrap (1000 * h.arm) = 1000 * h.arm := w64 (by omega) (by omega)
  refine hfn_intro hm Tryz.func224 (by kernel_rfl) rfl (by kernel_rfl) rfl ret0_ok ?_
  simp [Hung.cells, w1]
  refine CallZ.use0 (c_nearest _ _ ⟨by omega, by omega⟩ (by omega) (by omega)) rfl rfl ?_
  simp [lenOf]
theorem half_le {h : Hung} (k : HungIn h) : Mid (h.angle.tdiv 2) ∧ IntKind.i64.wrap (h.angle.tdiv 2) = h.angle.tdiv 2 := by
  have h1 := k.g0
  have h2 := k.g1
  have e : h.angle.tdiv 2 = h.angle / 2 := Int.tdiv_eq_ediv_of_nonneg (by omega)
  refine ⟨⟨by omega, by omega⟩, ?_⟩
  rw [e]
  exact w64 (by omega) (by omega)
set_option maxHeartbeats 1000000 in
theorem c_periodOf (h : Hung) (k : HungIn h) : HFn Tryz.prog 135 [.agg h.cells] [] (.int .i64 (perV h)) [] := by
  obtain ⟨l0, l1⟩ := len_le k
  obtain ⟨r0, r1, n0, n1⟩ := r_le k
  obtain ⟨s0, s1, q0, q1⟩ := q_le h
  obtain ⟨y0, y1, z0, z1, p0, p1⟩ := per_le k
  obtain ⟨m1, m2⟩ := half_le k
  have kl := c_swingLength h k
  have kr := c_RootOf ((40243 * lenOf h).tdiv 100) ⟨by omega, by omega⟩ n0
  have er : rootV ((40243 * lenOf h).tdiv 100) = rOf h := rfl
  rw [er] at kr
  have ks := c_SineOf (h.angle.tdiv 2) m1
  have kn := c_nearest (rOf h * (16000 * qOf h + 9 * qOf h * qOf h)) 64000000 ⟨by omega, by omega⟩ (by decide) (by decide)
  have hp : perV h = rOf h + nearV (rOf h * (16000 * qOf h + 9 * qOf h * qOf h)) 64000000 := rfl
  have hq : (sinV (h.angle.tdiv 2) * sinV (h.angle.tdiv 2)).tdiv 1000 = qOf h := rfl
  have w1 : IntKind.i64.wrap (40243 * lenOf h) = 40243 * lenOf h := w64 (by omega) (by omega)
  have w2 : IntKind.i64.wrap ((40243 * lenOf h).tdiv 100) = (40243 * lenOf h).tdiv 100 := w64 (by omega) (by omega)
  have w3 : IntKind.i64.wrap (sinV (h.angle.tdiv 2) * sinV (h.angle.tdiv 2)) = sinV (h.angle.tdiv 2) * sinV (h.angle.tdiv 2) := w64 (by omega) (by omega)
  have w4 : IntKind.i64.wrap (qOf h) = qOf h := w64 (by omega) (by omega)
  have w5 : IntKind.i64.wrap (16000 * qOf h) = 16000 * qOf h := w64 (by omega) (by omega)
  have w6 : IntKind.i64.wrap (9 * qOf h) = 9 * qOf h := w64 (by omega) (by omega)
  have w7 : IntKind.i64.wrap (9 * qOf h * qOf h) = 9 * qOf h * qOf h := w64 (by omega) (by omega)
  have w8 : IntKind.i64.wrap (16000 * qOf h + 9 * qOf h * qOf h) = 16000 * qOf h + 9 * qOf h * qOf h := w64 (by omega) (by omega)
  have w9 : IntKind.i64.wrap (rOf h * (16000 * qOf h + 9 * qOf h * qOf h)) = rOf h * (16000 * qOf h + 9 * qOf h * qOf h) := w64 (by omega) (by omega)
  have wa : IntKind.i64.wrap (perV h) = perV h := w64 (by omega) (by omega)
  simp only [Hung.cells] at kl
  refine hfn_intro hm Tryz.func135 (by kernel_rfl) rfl (by kernel_rfl) rfl ret0_ok ?_
  simp [Hung.cells]
  refine CallZ.use0 kl rfl rfl ?_
  simp [w1, w2]
  refine CallZ.use0 kr rfl rfl ?_
  simp [m2]
  refine CallZ.use0 ks rfl rfl ?_
  simp [w3, hq, w4, w5, w6, w7, w8, w9]
  refine CallZ.use0 kn rfl rfl ?_
  simp [← hp, wa]
end Go.Proofs.YtcjpfjklhhclmaaGreatDoor

namespace Go.Proofs.YtcjpfjklhhclmaaGreatDoor
open Go Go.Ab
set_option maxRecDepth 100000

def swFine (h : Hung) : Bool := swingOk (swingV h)
/-- All swings are fine. -/
def sfine (l : List Hung) : Bool := l.all swFine
def sCode (l : List Hung) : Int := if sfine l = true then 0 else 6
def swingsL (l : List Hung) : List Swing := if sfine l = true then l.map swingV else []
theorem swingsL_len (l : List Hung) : (swingsL l).length ≤ l.length := by
  unfold swingsL
  split <;> simp
theorem all_upto {l : List Hung} (h : ∀ j, j < l.length → ∀ (hj : j < l.length), swFine l[j] = true) : sfine l = true := show l.all swFine = true from List.all_eq_true.2 fun x hx => by
  obtain ⟨i, hi, rfl⟩ := List.getElem_of_mem hx
  exact h i hi hi
theorem all_not {l : List Hung} {i : Nat} (hi : i < l.length) (h : swFine l[i] = false) : sfine l = false := by
  cases e : sfine l with
  | false => rfl
  | true =>
    have := List.all_eq_true.1 (show l.all swFine = true from e) _ (List.getElem_mem hi)
    rw [h] at this
    cases this
theorem swing_succ {l : List Hung} {i : Nat} (hi : i < l.length) : (l.take (i + 1)).map swingV = (l.take i).map swingV ++ [swingV l[i]] := by
  rw [← List.take_append_getElem hi, List.map_append]
  rfl
theorem upto_fine {l : List Hung} {i : Nat} (hI : ∀ j, j < i → ∀ (hj : j < l.length), swFine l[j] = true) {hi : i < l.length} (h : swFine l[i] = true) : ∀ j, j < i + 1 → ∀ (hj : j < l.length), swFine l[j] = true := fun j hj hjl => by
  by_cases e : j = i
  · subst e; exact h
  · exact hI j (by omega) hjl
set_option maxHeartbeats 2000000 in
theorem c_swingsOf (l : List Hung) (hl : l.length ≤ 1048576) (hv : ∀ h ∈ l, hungOk h = true) : HFn Tryz.prog 48 [.sl 5 (Hung.rows l)] [] (.tup [.sf 0 3, .bool (sfine l)]) [some (.arr 3 (Swing.rows (swingsL l)))] := by
  refine hfn_intro hm Tryz.func48 (by kernel_rfl) rfl (by kernel_rfl) rfl (fun _ _ h => h) ?_
  simp [Hung.rows_len]
  refine loop_upto hm l.length (fun i => ⟨[(4, .sf 0 3), (11, .sl 5 (Hung.rows l)), (12, .int .i64 l.length), (13, .int .i64 i)], [some (.arr 3 (Swing.rows ((l.take i).map swingV)))]⟩) (fun i => ∀ j, j < i → ∀ (hj : j < l.length), swFine l[j] = true) (by kernel_rfl) ?_ (by simp) (fun i hi hI => ?_) (fun hI => ?_)
  · refine (weak_nil (t := 4) (z := 3) rfl).trans (Wk.weak (ρ := [0]) (φ := []) ?_)
    simp [Swing.rows]
  · have w1 : IntKind.i64.wrap ((i : Int) + 1) = (i : Int) + 1 := w64 (by omega) (by omega)
    have hk := hv _ (List.getElem_mem hi)
    have k := hung_in hk
    obtain ⟨_, _, _, _, p0, p1⟩ := per_le k
    have kg := c_GreatestHorizontal l[i] hk
    have kp := c_periodOf l[i] k
    have kn := c_nearest 1000000 (max (perV l[i]) 1) ⟨by decide, by decide⟩ (by omega) (by omega)
    have er : nearV 1000000 (max (perV l[i]) 1) = rateV l[i] := rfl
    rw [er] at kn
    have ks := c_validSwing (swingV l[i])
    have hs : (swingV l[i]).cells = [.str l[i].bell, .int .i64 (rateV l[i]), .int .i64 (bestV l[i] l[i].angle.toNat).1] := rfl
    have hf : swingOk (swingV l[i]) = swFine l[i] := rfl
    rw [hs, hf] at ks
    have hsc := swing_succ hi
    have hget : (Hung.rows l)[i]'(by rw [Hung.rows_len]; exact hi) = [.str l[i].bell, .int .i64 l[i].mass, .int .i64 l[i].arm, .int .i64 l[i].form, .int .i64 l[i].angle] := by simp [Hung.rows, Hung.cells]
    have hrl : (Swing.rows ((l.take i).map swingV)).length = i := by rw [Swing.rows_len, List.length_map, List.length_take]; omega
    have hrs : Swing.rows ((l.take (i + 1)).map swingV) = Swing.rows ((l.take i).map swingV) ++ [[.str l[i].bell, .int .i64 (rateV l[i]), .int .i64 (bestV l[i] l[i].angle.toNat).1]] := by
      rw [hsc]
      simp [Swing.rows, ← hs]
    simp only [Hung.cells] at kg kp
    simp [Hung.rows_len, hi, hget]
    refine CallZ.use0 kg rfl rfl ?_
    simp
    refine CallZ.use0 kp rfl rfl ?_
    simp
    refine CallZ.use0 kn rfl rfl ?_
    simp
    refine CallZ.use0 ks rfl rfl ?_
    simp [← List.map_take, hrl]
    refine ⟨fun g => ?_, fun g => ?_⟩
    · have e1 : sfine l = false := all_not hi g
      have e2 : swingsL l = [] := by unfold swingsL; rw [if_neg (by rw [e1]; decide)]
      rw [e1, e2]
      refine (weak_nilT (t := 0) 0 3 rfl rfl).trans (Wk.weak (ρ := [3]) (φ := []) ?_)
      simp [Swing.rows]
    · refine ⟨by simp [rowsOne], by omega, by omega, fun j hj hjl => upto_fine hI g j hj hjl, Wk.weak (ρ := [0]) (φ := []) ?_⟩
      simp [w1, hrs, -List.map_take]
  · have e1 := all_upto (l := l) hI
    have e2 : swingsL l = l.map swingV := by unfold swingsL; rw [if_pos e1]
    rw [e1, e2]
    simp
    refine Wk.weak (ρ := [0]) (φ := []) ?_
    simp

def swCode (l : List Hung) : Int := if hungsOk l = true then (sCode l) else 1
def swOut (l : List Hung) : List Swing := if hungsOk l = true then swingsL l else []
theorem c_impl_SwingsOf (l : List Hung) (hl : l.length ≤ 1048576) : HFn Tryz.prog 11 [.sl 5 (Hung.rows l)] [] (.tup [.sf 0 3, .int .i64 (swCode l)]) [some (.arr 3 (Swing.rows (swOut l)))] := by
  refine hfn_intro hm Tryz.func11 (by kernel_rfl) rfl (by kernel_rfl) rfl (fun _ _ h => h) ?_
  simp
  refine CallZ.use0 (c_validHungs l hl) rfl rfl ?_
  simp
  refine ⟨fun g => ?_, fun g => ?_⟩
  · have e1 : swCode l = 1 := by unfold swCode; rw [if_neg (by rw [g]; decide)]
    have e2 : swOut l = [] := by unfold swOut; rw [if_neg (by rw [g]; decide)]
    rw [e1, e2]
    refine (weak_nilT (t := 0) 0 3 rfl rfl).trans (Wk.weak (ρ := [0]) (φ := []) ?_)
    simp [Swing.rows]
  · have e1 : swCode l = sCode l := by unfold swCode; rw [if_pos g]
    have e2 : swOut l = swingsL l := by unfold swOut; rw [if_pos g]
    rw [e1, e2]
    have ks := c_swingsOf l hl (hungs_mem g).2
    simp only [swingsL, sCode] at ks ⊢
    refine CallZ.use ks rfl (.inr ⟨Swing.flat _, trivial⟩) rfl rfl ?_
    cases sfine l with
    | true =>
      simp
      refine Wk.weak (ρ := [0]) (φ := []) ?_
      simp
    | false =>
      simp
      refine (weak_nilT (t := 0) 0 3 rfl rfl).trans (Wk.weak (ρ := [1]) (φ := []) ?_)
      simp [Swing.rows]
end Go.Proofs.YtcjpfjklhhclmaaGreatDoor
