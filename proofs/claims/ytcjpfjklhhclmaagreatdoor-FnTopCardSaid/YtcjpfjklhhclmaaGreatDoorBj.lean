/- Contracts: sway of a tower, beams under their loads, troubles of the tower. No condition. -/
import Derived.Test.YtcjpfjklhhclmaaGreatDoorBi
import Derived.Test.YtcjpfjklhhclmaaGreatDoorZd
namespace Go.Proofs.YtcjpfjklhhclmaaGreatDoor
open Go Go.Ab
set_option maxRecDepth 100000

/-! ### Sway -/
structure TowIn (t : Tower) : Prop where
  s0 : 100 ≤ t.sway
  s1 : t.sway ≤ 10000
  d0 : 5 ≤ t.damping
  d1 : t.damping ≤ 500
  f0 : 1 ≤ t.stiffness
  f1 : t.stiffness ≤ 1000000
theorem towIn {t : Tower} (h : towerOk t = true) : TowIn t := by
  simp only [towerOk, Bool.and_eq_true, decide_eq_true_eq] at h
  exact ⟨by omega, by omega, by omega, by omega, by omega, by omega⟩
def rV (t : Tower) (rate : Int) : Int := nearV (1000 * rate) t.sway
def aV (t : Tower) (rate : Int) : Int := 1000 - nearV (rV t rate * rV t rate) 1000
def bV (t : Tower) (rate : Int) : Int := nearV (2 * t.damping * rV t rate) 1000
def facV (t : Tower) (rate : Int) : Int := nearV 1000000 (max 1 (rootV (aV t rate * aV t rate + bV t rate * bV t rate)))
theorem rV_in {t : Tower} (h : TowIn t) {rate : Int} (h0 : 0 ≤ rate) (h1 : rate ≤ 15000) : 0 ≤ rV t rate ∧ rV t rate ≤ 150000 := by
  have := h.s0
  refine ⟨near_nonneg (by omega) (by omega), (near_le (M := 150000) (by omega) (by decide) (by omega) (by omega)).2⟩
theorem rr_in {t : Tower} (h : TowIn t) {rate : Int} (h0 : 0 ≤ rate) (h1 : rate ≤ 15000) : 0 ≤ rV t rate * rV t rate ∧ rV t rate * rV t rate ≤ 22500000000 := by
  obtain ⟨r0, r1⟩ := rV_in h h0 h1
  exact ⟨Int.mul_nonneg r0 r0, by have := Int.mul_le_mul r1 r1 r0 (by omega); omega⟩
theorem aV_in {t : Tower} (h : TowIn t) {rate : Int} (h0 : 0 ≤ rate) (h1 : rate ≤ 15000) : -22500000 ≤ aV t rate ∧ aV t rate ≤ 1000 := by
  obtain ⟨r0, r1⟩ := rr_in h h0 h1
  have n0 := near_nonneg (a := rV t rate * rV t rate) (b := 1000) (by decide) r0
  have n1 := near_le (a := rV t rate * rV t rate) (b := 1000) (M := 22500000) (by decide) (by decide) (by omega) (by omega)
  unfold aV
  omega
theorem dr_in {t : Tower} (h : TowIn t) {rate : Int} (h0 : 0 ≤ rate) (h1 : rate ≤ 15000) : 0 ≤ 2 * t.damping * rV t rate ∧ 2 * t.damping * rV t rate ≤ 150000000 := by
  obtain ⟨r0, r1⟩ := rV_in h h0 h1
  have := h.d0
  have := h.d1
  exact ⟨Int.mul_nonneg (by omega) r0, by have := Int.mul_le_mul (show 2 * t.damping ≤ 1000 by omega) r1 r0 (by omega); omega⟩
theorem bV_in {t : Tower} (h : TowIn t) {rate : Int} (h0 : 0 ≤ rate) (h1 : rate ≤ 15000) : 0 ≤ bV t rate ∧ bV t rate ≤ 150000 := by
  obtain ⟨r0, r1⟩ := dr_in h h0 h1
  exact ⟨near_nonneg (by decide) r0, (near_le (M := 150000) (by decide) (by decide) (by omega) (by omega)).2⟩
theorem ab_in {t : Tower} (h : TowIn t) {rate : Int} (h0 : 0 ≤ rate) (h1 : rate ≤ 15000) : (0 ≤ aV t rate * aV t rate ∧ aV t rate * aV t rate ≤ 506250000000000) ∧ 0 ≤ bV t rate * bV t rate ∧ bV t rate * bV t rate ≤ 22500000000 := by
  obtain ⟨a0, a1⟩ := aV_in h h0 h1
  obtain ⟨b0, b1⟩ := bV_in h h0 h1
  have h3 := mul_le_abs (a := aV t rate) (b := aV t rate) (A := 22500000) (B := 22500000) (by decide) (by decide) (by omega) (by omega) (by omega) (by omega)
  exact ⟨⟨sq_nn _, by omega⟩, Int.mul_nonneg b0 b0, by have := Int.mul_le_mul b1 b1 b0 (by omega); omega⟩
theorem facV_in {t : Tower} (_h : TowIn t) {rate : Int} (_h0 : 0 ≤ rate) (_h1 : rate ≤ 15000) : 0 ≤ facV t rate ∧ facV t rate ≤ 1000000 := by
  have hp : 0 < max 1 (rootV (aV t rate * aV t rate + bV t rate * bV t rate)) := by omega
  have h1 : 1 ≤ max 1 (rootV (aV t rate * aV t rate + bV t rate * bV t rate)) := by omega
  refine ⟨near_nonneg hp (by decide), (near_le (M := 1000000) hp (by decide) (by omega) (by omega)).2⟩
theorem max_in {t : Tower} (h : TowIn t) {rate : Int} (h0 : 0 ≤ rate) (h1 : rate ≤ 15000) : 0 ≤ rootV (aV t rate * aV t rate + bV t rate * bV t rate) ∧ rootV (aV t rate * aV t rate + bV t rate * bV t rate) ≤ 30000000 := by
  obtain ⟨⟨a0, a1⟩, b0, b1⟩ := ab_in h h0 h1
  exact rootV_le (by decide) (by omega) (by omega)
set_option maxHeartbeats 2000000 in
theorem c_factor (t : Tower) (rate : Int) (h : TowIn t) (h0 : 0 ≤ rate) (h1 : rate ≤ 15000) : HFn Tryz.prog 350 [.agg t.cells, .int .i64 rate] [] (.int .i64 (facV t rate)) [] := by
  obtain ⟨r0, r1⟩ := rV_in h h0 h1
  obtain ⟨rr0, rr1⟩ := rr_in h h0 h1
  obtain ⟨a0, a1⟩ := aV_in h h0 h1
  obtain ⟨d0, d1⟩ := dr_in h h0 h1
  obtain ⟨b0, b1⟩ := bV_in h h0 h1
  obtain ⟨⟨aa0, aa1⟩, bb0, bb1⟩ := ab_in h h0 h1
  obtain ⟨m0, m1⟩ := max_in h h0 h1
  have s0 := h.s0
  have s1 := h.s1
  have e0 := h.d0
  have e1 := h.d1
  have k1 := c_nearest (1000 * rate) t.sway ⟨by omega, by omega⟩ (by omega) (by omega)
  have k2 := c_nearest (rV t rate * rV t rate) 1000 ⟨by omega, by omega⟩ (by decide) (by decide)
  have k3 := c_nearest (2 * t.damping * rV t rate) 1000 ⟨by omega, by omega⟩ (by decide) (by decide)
  have k4 := c_RootOf (aV t rate * aV t rate + bV t rate * bV t rate) ⟨by omega, by omega⟩ (by omega)
  have k5 := c_nearest 1000000 (max 1 (rootV (aV t rate * aV t rate + bV t rate * bV t rate))) ⟨by decide, by decide⟩ (by omega) (by omega)
  have w1 : IntKind.i64.wrap (1000 * rate) = 1000 * rate := w64 (by omega) (by omega)
  have w2 : IntKind.i64.wrap (rV t rate * rV t rate) = rV t rate * rV t rate := w64 (by omega) (by omega)
  have w3 : IntKind.i64.wrap (2 * t.damping) = 2 * t.damping := w64 (by omega) (by omega)
  have w4 : IntKind.i64.wrap (2 * t.damping * rV t rate) = 2 * t.damping * rV t rate := w64 (by omega) (by omega)
  have ea : IntKind.i64.wrap (1000 - nearV (rV t rate * rV t rate) 1000) = aV t rate := w64 (n := 1000 - nearV (rV t rate * rV t rate) 1000) (by change _ ≤ aV t rate; omega) (by change aV t rate ≤ _; omega)
  have w6 : IntKind.i64.wrap (aV t rate * aV t rate) = aV t rate * aV t rate := w64 (by omega) (by omega)
  have w7 : IntKind.i64.wrap (bV t rate * bV t rate) = bV t rate * bV t rate := w64 (by omega) (by omega)
  have w8 : IntKind.i64.wrap (aV t rate * aV t rate + bV t rate * bV t rate) = aV t rate * aV t rate + bV t rate * bV t rate := w64 (by omega) (by omega)
  change HFn _ _ _ _ (.int .i64 (rV t rate)) _ at k1
  change HFn _ _ _ _ (.int .i64 (bV t rate)) _ at k3
  refine hfn_intro hm Tryz.func350 (by kernel_rfl) rfl (by kernel_rfl) rfl ret0_ok ?_
  simp [Tower.cells, w1]
  refine CallZ.use0 k1 rfl rfl ?_
  simp [w2]
  refine CallZ.use0 k2 rfl rfl ?_
  simp [ea, w3, w4]
  refine CallZ.use0 k3 rfl rfl ?_
  simp [w6, w7, w8]
  refine CallZ.use0 k4 rfl rfl ?_
  simp
  refine CallZ.use0 k5 rfl rfl ?_
  simp [facV]
set_option maxHeartbeats 2000000 in
theorem c_l22Factor (t : Tower) (rate : Int) (rows : List (List PV)) (i0 : Nat) (hr : rows[i0]? = some t.cells) (h : TowIn t) (h0 : 0 ≤ rate) (h1 : rate ≤ 15000) : HFn Tryz.prog 289 [.pe 5 rows i0 0, .int .i64 rate] [] (.int .i64 (facV t rate)) [] := by
  obtain ⟨r0, r1⟩ := rV_in h h0 h1
  obtain ⟨rr0, rr1⟩ := rr_in h h0 h1
  obtain ⟨a0, a1⟩ := aV_in h h0 h1
  obtain ⟨d0, d1⟩ := dr_in h h0 h1
  obtain ⟨b0, b1⟩ := bV_in h h0 h1
  obtain ⟨⟨aa0, aa1⟩, bb0, bb1⟩ := ab_in h h0 h1
  obtain ⟨m0, m1⟩ := max_in h h0 h1
  have s0 := h.s0
  have s1 := h.s1
  have e0 := h.d0
  have e1 := h.d1
  have hi : i0 < rows.length := (List.getElem?_eq_some_iff.1 hr).1
  have hx : rows[i0] = t.cells := (List.getElem?_eq_some_iff.1 hr).2
  rw [Tower.cells] at hr hx
  have k1 := c_l01Div (1000 * rate) t.sway ⟨by omega, by omega⟩ (by omega) (by omega)
  have k2 := c_l01Div (rV t rate * rV t rate) 1000 ⟨by omega, by omega⟩ (by decide) (by decide)
  have k3 := c_l01Div (2 * t.damping * rV t rate) 1000 ⟨by omega, by omega⟩ (by decide) (by decide)
  have k4 := c_l01Root (aV t rate * aV t rate + bV t rate * bV t rate) ⟨by omega, by omega⟩ (by omega)
  have k6 := c_l00Max 1 (rootV (aV t rate * aV t rate + bV t rate * bV t rate))
  have k5 := c_l01Div 1000000 (max 1 (rootV (aV t rate * aV t rate + bV t rate * bV t rate))) ⟨by decide, by decide⟩ (by omega) (by omega)
  have w1 : IntKind.i64.wrap (1000 * rate) = 1000 * rate := w64 (by omega) (by omega)
  have w2 : IntKind.i64.wrap (rV t rate * rV t rate) = rV t rate * rV t rate := w64 (by omega) (by omega)
  have w3 : IntKind.i64.wrap (2 * t.damping) = 2 * t.damping := w64 (by omega) (by omega)
  have w4 : IntKind.i64.wrap (2 * t.damping * rV t rate) = 2 * t.damping * rV t rate := w64 (by omega) (by omega)
  have ea : IntKind.i64.wrap (1000 - nearV (rV t rate * rV t rate) 1000) = aV t rate := w64 (n := 1000 - nearV (rV t rate * rV t rate) 1000) (by change _ ≤ aV t rate; omega) (by change aV t rate ≤ _; omega)
  have w6 : IntKind.i64.wrap (aV t rate * aV t rate) = aV t rate * aV t rate := w64 (by omega) (by omega)
  have w7 : IntKind.i64.wrap (bV t rate * bV t rate) = bV t rate * bV t rate := w64 (by omega) (by omega)
  have w8 : IntKind.i64.wrap (aV t rate * aV t rate + bV t rate * bV t rate) = aV t rate * aV t rate + bV t rate * bV t rate := w64 (by omega) (by omega)
  change HFn _ _ _ _ (.int .i64 (rV t rate)) _ at k1
  change HFn _ _ _ _ (.int .i64 (bV t rate)) _ at k3
  refine hfn_intro hm Tryz.func289 (by kernel_rfl) rfl (by kernel_rfl) rfl ret0_ok ?_
  simp [hi, hx, w1]
  refine CallZ.use0 k1 rfl rfl ?_
  simp [w2]
  refine CallZ.use0 k2 rfl rfl ?_
  simp [hi, hx, ea, w3, w4]
  refine CallZ.use0 k3 rfl rfl ?_
  simp [w6, w7, w8]
  refine CallZ.use0 k4 rfl rfl ?_
  simp
  refine CallZ.use0 k6 rfl rfl ?_
  simp
  refine CallZ.use0 k5 rfl rfl ?_
  simp [facV]

structure SwIn (s : Swing) : Prop where
  r0 : 100 ≤ s.rate
  r1 : s.rate ≤ 5000
  f0 : 1 ≤ s.force
  f1 : s.force ≤ 1000000
theorem swIn {s : Swing} (h : swingOk s = true) : SwIn s := by
  simp only [swingOk, Bool.and_eq_true, decide_eq_true_eq] at h
  exact ⟨by omega, by omega, by omega, by omega⟩
def ampV (t : Tower) (s : Swing) : Int := IntKind.i64.wrap (nearV (facV t s.rate * s.force) (1000 * t.stiffness) + nearV (facV t (3 * s.rate) * s.force) (9000 * t.stiffness))
theorem ff_in {f g : Int} (f0 : 0 ≤ f) (f1 : f ≤ 1000000) (g0 : 1 ≤ g) (g1 : g ≤ 1000000) : 0 ≤ f * g ∧ f * g ≤ 1000000000000 :=
  ⟨Int.mul_nonneg f0 (by omega), by have := Int.mul_le_mul f1 g1 (by omega) (by omega); omega⟩
set_option maxHeartbeats 2000000 in
theorem c_amplitude (t : Tower) (s : Swing) (h : TowIn t) (k : SwIn s) : HFn Tryz.prog 323 [.agg t.cells, .agg s.cells] [] (.int .i64 (ampV t s)) [] := by
  obtain ⟨r0, r1, f0, f1⟩ := k
  have g0 := h.f0
  have g1 := h.f1
  obtain ⟨a0, a1⟩ := facV_in h (rate := s.rate) (by omega) (by omega)
  obtain ⟨b0, b1⟩ := facV_in h (rate := 3 * s.rate) (by omega) (by omega)
  obtain ⟨x0, x1⟩ := ff_in a0 a1 f0 f1
  obtain ⟨y0, y1⟩ := ff_in b0 b1 f0 f1
  have k1 := c_factor t s.rate h (by omega) (by omega)
  have k2 := c_factor t (3 * s.rate) h (by omega) (by omega)
  have k3 := c_nearest (facV t s.rate * s.force) (1000 * t.stiffness) ⟨by omega, by omega⟩ (by omega) (by omega)
  have k4 := c_nearest (facV t (3 * s.rate) * s.force) (9000 * t.stiffness) ⟨by omega, by omega⟩ (by omega) (by omega)
  have w1 : IntKind.i64.wrap (3 * s.rate) = 3 * s.rate := w64 (by omega) (by omega)
  have w2 : IntKind.i64.wrap (facV t s.rate * s.force) = facV t s.rate * s.force := w64 (by omega) (by omega)
  have w3 : IntKind.i64.wrap (facV t (3 * s.rate) * s.force) = facV t (3 * s.rate) * s.force := w64 (by omega) (by omega)
  have w4 : IntKind.i64.wrap (1000 * t.stiffness) = 1000 * t.stiffness := w64 (by omega) (by omega)
  have w5 : IntKind.i64.wrap (9000 * t.stiffness) = 9000 * t.stiffness := w64 (by omega) (by omega)
  simp only [Tower.cells] at k1 k2
  refine hfn_intro hm Tryz.func323 (by kernel_rfl) rfl (by kernel_rfl) rfl ret0_ok ?_
  simp [Tower.cells, Swing.cells]
  refine CallZ.use0 k1 rfl rfl ?_
  simp [w2, w4]
  refine CallZ.use0 k3 rfl rfl ?_
  simp [w1]
  refine CallZ.use0 k2 rfl rfl ?_
  simp [w3, w5]
  refine CallZ.use0 k4 rfl rfl ?_
  simp [ampV]
set_option maxHeartbeats 2000000 in
theorem c_l22Amplitude (t : Tower) (s : Swing) (rows : List (List PV)) (i0 : Nat) (hr : rows[i0]? = some t.cells) (rows' : List (List PV)) (j0 : Nat) (hr' : rows'[j0]? = some s.cells) (h : TowIn t) (k : SwIn s) : HFn Tryz.prog 227 [.pe 5 rows i0 0, .pe 3 rows' j0 0] [] (.int .i64 (ampV t s)) [] := by
  obtain ⟨r0, r1, f0, f1⟩ := k
  have g0 := h.f0
  have g1 := h.f1
  obtain ⟨a0, a1⟩ := facV_in h (rate := s.rate) (by omega) (by omega)
  obtain ⟨b0, b1⟩ := facV_in h (rate := 3 * s.rate) (by omega) (by omega)
  obtain ⟨x0, x1⟩ := ff_in a0 a1 f0 f1
  obtain ⟨y0, y1⟩ := ff_in b0 b1 f0 f1
  have k1 := c_l22Factor t s.rate rows i0 hr h (by omega) (by omega)
  have k2 := c_l22Factor t (3 * s.rate) rows i0 hr h (by omega) (by omega)
  have k3 := c_l01Div (facV t s.rate * s.force) (1000 * t.stiffness) ⟨by omega, by omega⟩ (by omega) (by omega)
  have k4 := c_l01Div (facV t (3 * s.rate) * s.force) (9000 * t.stiffness) ⟨by omega, by omega⟩ (by omega) (by omega)
  have w1 : IntKind.i64.wrap (3 * s.rate) = 3 * s.rate := w64 (by omega) (by omega)
  have w2 : IntKind.i64.wrap (facV t s.rate * s.force) = facV t s.rate * s.force := w64 (by omega) (by omega)
  have w3 : IntKind.i64.wrap (facV t (3 * s.rate) * s.force) = facV t (3 * s.rate) * s.force := w64 (by omega) (by omega)
  have w4 : IntKind.i64.wrap (1000 * t.stiffness) = 1000 * t.stiffness := w64 (by omega) (by omega)
  have w5 : IntKind.i64.wrap (9000 * t.stiffness) = 9000 * t.stiffness := w64 (by omega) (by omega)
  have hi : i0 < rows.length := (List.getElem?_eq_some_iff.1 hr).1
  have hx : rows[i0] = t.cells := (List.getElem?_eq_some_iff.1 hr).2
  have hj : j0 < rows'.length := (List.getElem?_eq_some_iff.1 hr').1
  have hy : rows'[j0] = s.cells := (List.getElem?_eq_some_iff.1 hr').2
  rw [Tower.cells] at hr hx
  rw [Swing.cells] at hr' hy
  refine hfn_intro hm Tryz.func227 (by kernel_rfl) rfl (by kernel_rfl) rfl ret0_ok ?_
  simp [hj, hy]
  refine CallZ.use0 k1 rfl rfl ?_
  simp [hi, hx, hj, hy, w2, w4]
  refine CallZ.use0 k3 rfl rfl ?_
  simp [hj, hy, w1]
  refine CallZ.use0 k2 rfl rfl ?_
  simp [hi, hx, hj, hy, w3, w5]
  refine CallZ.use0 k4 rfl rfl ?_
  simp [ampV]
def ampL (t : Tower) (l : List Swing) : List Int := l.map (ampV t)
def addL (l : List Int) (i : Nat) : Int := (l.take i).foldl (fun s x => IntKind.i64.wrap (s + x)) 0
theorem addL_succ (l : List Int) {i : Nat} (hi : i < l.length) : addL l (i + 1) = IntKind.i64.wrap (addL l i + l[i]) := by
  unfold addL
  rw [← List.take_append_getElem hi, List.foldl_append]
  rfl
def ltSwing (a b : Swing) : Bool := Op.bytesLess a.bell b.bell
def swingsOk (l : List Swing) : Bool := upOk swingOk ltSwing l && decide ((l.length : Int) ≤ 16)
theorem map_take_succ' {α β : Type} (f : α → β) (l : List α) {i : Nat} (hi : i < l.length) : (l.take (i + 1)).map f = (l.take i).map f ++ [f l[i]] := by
  rw [← List.take_append_getElem hi, List.map_append]
  rfl
theorem c_l22Tower (x : Tower) (rows : List (List PV)) (i0 : Nat) (hr : rows[i0]? = some x.cells) : HFn Tryz.prog 105 [.pe 5 rows i0 0] [] (.bool (towerOk x)) [] := by
  have hi : i0 < rows.length := (List.getElem?_eq_some_iff.1 hr).1
  have hx : rows[i0] = x.cells := (List.getElem?_eq_some_iff.1 hr).2
  rw [Tower.cells] at hr hx
  refine hfn_intro hm Tryz.func105 (by kernel_rfl) rfl (by kernel_rfl) rfl ret0_ok ?_
  simp [hi, hx]
  refine CallZ.use0 (c_spec_l01Name _) rfl rfl ?_
  simp [hi, hx]
  iterate 4
    repeat refine ⟨by grind, ?_⟩
    refine CallY.use (fun _ => ⟨rfl, c_l00In _ _ _⟩) rfl rfl ?_
    simp [hi, hx]
  repeat refine ⟨by grind, ?_⟩
  simp [towerOk]
set_option maxHeartbeats 1000000 in
theorem c_impl_ValidSwings (l : List Swing) (hl : l.length ≤ 1048576) : HFn Tryz.prog 278 [.sl 3 (Swing.rows l)] [] (.bool (swingsOk l)) [] := by
  refine hfn_intro hm Tryz.func278 (by kernel_rfl) rfl (by kernel_rfl) rfl ret0_ok ?_
  simp [Swing.rows]
  refine loop_upto hm l.length (fun i => ⟨[(0, .sl 3 (Swing.rows l)), (5, .sl 3 (Swing.rows l)), (6, .int .i64 l.length), (7, .int .i64 i)], []⟩) (fun i => ∀ j, j < i → upAt swingOk ltSwing l j = true) (by kernel_rfl) ?_ (by simp) (fun i hi hI => ?_) (fun hI => ?_)
  · exact Wk.weak (ρ := []) (φ := []) (by simp [Swing.rows])
  · have e1 : IntKind.i64.wrap ((i : Int) - 1) = i - 1 := w64 (by omega) (by omega)
    obtain ⟨y, hy⟩ : ∃ y, l[i - 1]? = some y := ⟨_, List.getElem?_eq_getElem (by omega)⟩
    have hx := List.getElem?_eq_getElem hi
    have kv := c_validSwing l[i]
    simp only [Swing.cells] at kv
    simp [Swing.rows, Swing.cells, hi]
    refine CallZ.use0 kv rfl rfl ?_
    simp [Swing.cells, hy, e1]
    have ho := upAt_eq swingOk ltSwing hx hy
    have hs := bytesLess_swap y.bell l[i].bell
    iterate 6 refine ⟨by grind, ?_⟩
    refine ⟨fun h => ?_, fun h1 h2 => ⟨upto_succ hI ?_, ?_⟩⟩
    · have : upAt swingOk ltSwing l i = false := by
        rw [ho, ltSwing]
        rcases h with h | ⟨h, h'⟩
        · simp [h]
        · have h3 : (Op.bytesLess l[i].bell y.bell || decide (l[i].bell = y.bell)) = true := by simpa using h'
          rw [hs] at h3
          have h4 : ¬ i = 0 := by omega
          simp at h3
          simp [h3, h4]
      simp only [swingsOk, upOk, all_range_false hi this, Bool.false_and]
    · rw [ho, ltSwing]
      rw [h1, Bool.true_and]
      by_cases h4 : i = 0
      · simp [h4]
      · obtain ⟨h5, h6⟩ := h2 (by omega)
        simp [h5, h6] at hs
        simp [hs]
    · refine Wk.weak (ρ := []) (φ := []) ?_
      simp
      exact w64 (by omega) (by omega)
  · simp [Swing.rows]
    simp only [swingsOk, upOk, all_range_true hI, Bool.true_and]
set_option maxHeartbeats 1000000 in
theorem c_l22Ok (l : List Swing) (hl : l.length ≤ 1048576) : HFn Tryz.prog 137 [.sl 3 (Swing.rows l)] [] (.bool (swingsOk l)) [] := by
  refine hfn_intro hm Tryz.func137 (by kernel_rfl) rfl (by kernel_rfl) rfl ret0_ok ?_
  simp [Swing.rows]
  refine loop_upto hm l.length (fun i => ⟨[(0, .sl 3 (Swing.rows l)), (3, .int .i64 i)], []⟩) (fun i => ∀ j, j < i → upAt swingOk ltSwing l j = true) (by kernel_rfl) ?_ (by simp) (fun i hi hI => ?_) (fun hI => ?_)
  · exact Wk.weak (ρ := []) (φ := []) (by simp [Swing.rows])
  · have e1 : IntKind.i64.wrap ((i : Int) - 1) = i - 1 := w64 (by omega) (by omega)
    obtain ⟨y, hy⟩ : ∃ y, l[i - 1]? = some y := ⟨_, List.getElem?_eq_getElem (by omega)⟩
    have hx := List.getElem?_eq_getElem hi
    simp [Swing.rows, hi]
    refine CallZ.use0 (c_l22One l[i] _ _ (by simp [hi])) rfl rfl ?_
    simp [Swing.cells, hi, hy, e1]
    have ho := upAt_eq swingOk ltSwing hx hy
    iterate 6 refine ⟨by grind, ?_⟩
    refine ⟨fun h => ?_, fun h1 h2 => ⟨upto_succ hI ?_, ?_⟩⟩
    · have : upAt swingOk ltSwing l i = false := by
        rw [ho, ltSwing]
        rcases h with h | ⟨h, h'⟩
        · simp [h]
        · have h4 : ¬ i = 0 := by omega
          simp [h', h4]
      simp only [swingsOk, upOk, all_range_false hi this, Bool.false_and]
    · rw [ho, ltSwing, h1, Bool.true_and]
      by_cases h4 : i = 0
      · simp [h4]
      · simp [h2 (by omega)]
    · refine Wk.weak (ρ := []) (φ := []) ?_
      simp
      exact w64 (by omega) (by omega)
  · simp [Swing.rows]
    simp only [swingsOk, upOk, all_range_true hI, Bool.true_and]
theorem c_sumOf (l : List Int) (hl : l.length ≤ 1048576) : HFn Tryz.prog 279 [.sl 1 (intRows l)] [] (.int .i64 (addL l l.length)) [] := by
  refine hfn_intro hm Tryz.func279 (by kernel_rfl) rfl (by kernel_rfl) rfl ret0_ok ?_
  simp [intRows_len]
  refine loop_upto hm l.length (fun i => ⟨[(3, .int .i64 (addL l i)), (6, .sl 1 (intRows l)), (7, .int .i64 l.length), (8, .int .i64 i)], []⟩) (fun _ => True) (by kernel_rfl) ?_ trivial (fun i hi _ => ?_) (fun _ => ?_)
  · exact Wk.weak (ρ := []) (φ := []) (by simp [addL])
  · have w1 : IntKind.i64.wrap ((i : Int) + 1) = (i : Int) + 1 := w64 (by omega) (by omega)
    rw [addL_succ l hi]
    simp [intRows_len, intRows_get, hi]
    exact Wk.weak (ρ := []) (φ := []) (by simp [w1])
  · simp
set_option maxHeartbeats 1000000 in
theorem c_amplitudes (t : Tower) (l : List Swing) (h : TowIn t) (hl : l.length ≤ 16) (hs : ∀ s ∈ l, SwIn s) : HFn Tryz.prog 280 [.agg t.cells, .sl 3 (Swing.rows l)] [] (.sf 0 1) [some (.arr 1 (intRows (ampL t l)))] := by
  refine hfn_intro hm Tryz.func280 (by kernel_rfl) rfl (by kernel_rfl) rfl (fun _ _ h => h) ?_
  have ka := fun s hs => c_amplitude t s h hs
  simp only [Tower.cells, Swing.cells] at ka
  simp [Tower.cells, Swing.rows_len]
  refine loop_upto hm l.length (fun i => ⟨[(2, .pb 0 0), (5, .sf 1 1), (8, .sl 3 (Swing.rows l)), (9, .int .i64 l.length), (10, .int .i64 i)], [some (.box t.cells), some (.arr 1 (intRows ((l.take i).map (ampV t))))]⟩) (fun _ => True) (by kernel_rfl) ?_ trivial (fun i hi _ => ?_) (fun _ => ?_)
  · exact (weak_nil (t := 5) (z := 1) rfl).trans (Wk.weak (ρ := [0, 1]) (φ := []) (by simp [Tower.cells, intRows]))
  · have w1 : IntKind.i64.wrap ((i : Int) + 1) = (i : Int) + 1 := w64 (by omega) (by omega)
    have hle : ((l.take i).map (ampV t)).length ≤ 16 := by rw [List.length_map, List.length_take]; omega
    have e := map_take_succ' (ampV t) l hi
    rw [e]
    generalize (l.take i).map (ampV t) = T at hle ⊢
    simp [Tower.cells, Swing.rows, Swing.cells, hi]
    refine CallZ.use0 (ka l[i] (hs _ (List.getElem_mem hi))) rfl rfl ?_
    simp [intRows_len]
    refine ⟨by simp [rowsOne], by omega, by omega, Wk.weak (ρ := [0, 1]) (φ := []) ?_⟩
    simp [w1, intRows_app]
    rfl
  · simp
    exact Wk.weak (ρ := [1]) (φ := []) (by simp [ampL])
set_option maxHeartbeats 1000000 in
theorem c_l22All (t : Tower) (l : List Swing) (rows : List (List PV)) (i0 : Nat) (hr : rows[i0]? = some t.cells) (h : TowIn t) (hl : l.length ≤ 16) (hs : ∀ s ∈ l, SwIn s) : HFn Tryz.prog 138 [.pe 5 rows i0 0, .sl 3 (Swing.rows l)] [] (.sf 0 1) [some (.arr 1 (intRows (ampL t l)))] := by
  refine hfn_intro hm Tryz.func138 (by kernel_rfl) rfl (by kernel_rfl) rfl (fun _ _ h => h) ?_
  simp
  refine loop_upto hm l.length (fun i => ⟨[(0, .pe 5 rows i0 0), (1, .sl 3 (Swing.rows l)), (5, .sf 0 1), (6, .int .i64 i)], [some (.arr 1 (intRows ((l.take i).map (ampV t))))]⟩) (fun _ => True) (by kernel_rfl) ?_ trivial (fun i hi _ => ?_) (fun _ => ?_)
  · exact (weak_nil (t := 5) (z := 1) rfl).trans (Wk.weak (ρ := [0]) (φ := []) (by simp [intRows]))
  · have w1 : IntKind.i64.wrap ((i : Int) + 1) = (i : Int) + 1 := w64 (by omega) (by omega)
    have hle : ((l.take i).map (ampV t)).length ≤ 16 := by rw [List.length_map, List.length_take]; omega
    have e := map_take_succ' (ampV t) l hi
    rw [e]
    generalize (l.take i).map (ampV t) = T at hle ⊢
    simp [Swing.rows, hi]
    refine CallZ.use0 (c_l22Amplitude t l[i] rows i0 hr _ i (by simp [hi]) h (hs _ (List.getElem_mem hi))) rfl rfl ?_
    simp [intRows_len]
    refine ⟨by simp [rowsOne], by omega, by omega, Wk.weak (ρ := [0]) (φ := []) ?_⟩
    simp [w1, intRows_app]
    rfl
  · simp [Swing.rows_len]
    exact Wk.weak (ρ := [0]) (φ := []) (by simp [ampL])
/-- The whole sway, and what is said of it. -/
def swayV (t : Tower) (l : List Swing) : Int := addL (ampL t l) (ampL t l).length
def permV (t : Tower) (l : List Swing) : Bool := swingsOk l && decide (swayV t l ≤ t.limit)
theorem swings_in {l : List Swing} (h : swingsOk l = true) : l.length ≤ 16 ∧ ∀ s ∈ l, SwIn s := by
  simp only [swingsOk, Bool.and_eq_true, decide_eq_true_eq] at h
  exact ⟨by omega, fun s hs => swIn (upOk_mem h.1 s hs)⟩
theorem ampL_len (t : Tower) (l : List Swing) : (ampL t l).length = l.length := by simp [ampL]
theorem c_impl_TotalSway (t : Tower) (l : List Swing) (ht : towerOk t = true) (hl : l.length ≤ 1048576) : HFn Tryz.prog 206 [.agg t.cells, .sl 3 (Swing.rows l)] [] (.tup [.int .i64 (if swingsOk l = true then swayV t l else 0), .int .i64 (if swingsOk l = true then 0 else 1)]) [] := by
  have kT := c_ValidTower t
  have kV := c_impl_ValidSwings l hl
  simp only [Tower.cells] at kT
  refine hfn_intro hm Tryz.func206 (by kernel_rfl) rfl (by kernel_rfl) rfl ret0_ok ?_
  simp [Tower.cells]
  refine CallZ.use0 kT rfl rfl ?_
  simp [ht]
  first | refine CallZ.use0 kV rfl rfl ?_ | refine CallY.use (fun _ => ⟨rfl, kV⟩) rfl rfl ?_
  cases hs : swingsOk l with
  | false => simp
  | true =>
    obtain ⟨h1, h2⟩ := swings_in hs
    have ka := c_amplitudes t l (towIn ht) h1 h2
    simp only [Tower.cells] at ka
    simp
    refine CallZ.use ka rfl (.inr ⟨flat_intRows _, trivial⟩) rfl rfl ?_
    simp
    refine CallZ.use0 (c_sumOf (ampL t l) (by rw [ampL_len]; omega)) rfl rfl ?_
    simp [swayV]
set_option maxHeartbeats 1000000 in
theorem c_spec_TotalSway (t : Tower) (l : List Swing) (ht : towerOk t = true) (hl : l.length ≤ 1048576) : HFn Tryz.prog 49 [.agg t.cells, .sl 3 (Swing.rows l)] [] (.tup [.int .i64 (if swingsOk l = true then swayV t l else 0), .int .i64 (if swingsOk l = true then 0 else 1)]) [] := by
  have kT := c_l22Tower t [t.cells] 0 rfl
  have kV := c_l22Ok l hl
  simp only [Tower.cells] at kT
  refine hfn_intro hm Tryz.func49 (by kernel_rfl) rfl (by kernel_rfl) rfl ret0_ok ?_
  simp [Tower.cells]
  refine CallZ.use0 kT rfl rfl ?_
  simp [ht]
  first | refine CallZ.use0 kV rfl rfl ?_ | refine CallY.use (fun _ => ⟨rfl, kV⟩) rfl rfl ?_
  cases hs : swingsOk l with
  | false => simp
  | true =>
    obtain ⟨h1, h2⟩ := swings_in hs
    have ka := c_l22All t l [t.cells] 0 rfl (towIn ht) h1 h2
    simp only [Tower.cells] at ka
    have hlen := ampL_len t l
    simp
    refine CallZ.use ka rfl (.inr ⟨flat_intRows _, trivial⟩) rfl rfl ?_
    unfold swayV
    generalize ampL t l = A at hlen ⊢
    simp
    refine loop_upto hm A.length (fun i => ⟨[(6, .sf 0 1), (7, .int .i64 (addL A i)), (8, .int .i64 i)], [some (.arr 1 (intRows A))]⟩) (fun _ => True) (by kernel_rfl) ?_ trivial (fun i hi _ => ?_) (fun _ => ?_)
    · exact Wk.weak (ρ := [1]) (φ := []) (by simp [addL])
    · have w1 : IntKind.i64.wrap ((i : Int) + 1) = (i : Int) + 1 := w64 (by omega) (by omega)
      rw [addL_succ A hi]
      simp [intRows_len, intRows_get, hi]
      exact Wk.weak (ρ := [0]) (φ := []) (by simp [w1])
    · simp [intRows_len]
theorem c_impl_IsPermitted (t : Tower) (l : List Swing) (ht : towerOk t = true) (hl : l.length ≤ 1048576) : HFn Tryz.prog 117 [.agg t.cells, .sl 3 (Swing.rows l)] [] (.bool (permV t l)) [] := by
  have k := c_impl_TotalSway t l ht hl
  simp only [Tower.cells] at k
  refine hfn_intro hm Tryz.func117 (by kernel_rfl) rfl (by kernel_rfl) rfl ret0_ok ?_
  simp [Tower.cells]
  refine CallZ.use0 k rfl rfl ?_
  cases hs : swingsOk l <;> simp [permV, hs]
theorem c_spec_IsPermitted (t : Tower) (l : List Swing) (ht : towerOk t = true) (hl : l.length ≤ 1048576) : HFn Tryz.prog 12 [.agg t.cells, .sl 3 (Swing.rows l)] [] (.bool (permV t l)) [] := by
  have k := c_spec_TotalSway t l ht hl
  simp only [Tower.cells] at k
  refine hfn_intro hm Tryz.func12 (by kernel_rfl) rfl (by kernel_rfl) rfl ret0_ok ?_
  simp [Tower.cells]
  refine CallZ.use0 k rfl rfl ?_
  cases hs : swingsOk l <;> simp [permV, hs]
end Go.Proofs.YtcjpfjklhhclmaaGreatDoor
