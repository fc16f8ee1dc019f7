/- Hung bells and their swings: plain law and contracts. No condition. -/
import Derived.Test.YtaidbadmhepccaaGreatDoorZa
import Derived.Test.YtaidbadmhepccaaGreatDoorCe
import Derived.Test.YtaidbadmhepccaaGreatDoorCk
import Derived.Test.YtaidbadmhepccaaGreatDoorTFlat
namespace Go.Proofs.YtaidbadmhepccaaGreatDoor
open Go Go.Ab
set_option maxRecDepth 100000

def hungOk (h : Hung) : Bool := isName h.bell && (decide (1 ≤ h.mass) && decide (h.mass ≤ 20000000)) && (decide (1 ≤ h.arm) && decide (h.arm ≤ 30000)) && (decide (1 ≤ h.form) && decide (h.form ≤ 1000)) && (decide (1 ≤ h.angle) && decide (h.angle ≤ 180))
structure HungIn (h : Hung) : Prop where
  m0 : 1 ≤ h.mass
  m1 : h.mass ≤ 20000000
  a0 : 1 ≤ h.arm
  a1 : h.arm ≤ 30000
  f0 : 1 ≤ h.form
  f1 : h.form ≤ 1000
  g0 : 1 ≤ h.angle
  g1 : h.angle ≤ 180
theorem hung_in {h : Hung} (k : hungOk h = true) : HungIn h := by
  simp only [hungOk, Bool.and_eq_true, decide_eq_true_eq] at k
  obtain ⟨⟨⟨⟨_, k1, k2⟩, k3, k4⟩, k5, k6⟩, k7, k8⟩ := k
  exact ⟨k1, k2, k3, k4, k5, k6, k7, k8⟩
def weightV (m : Int) : Int := nearV (m * 981) 100000
def horV (h : Hung) (d : Int) : Int := nearV (weightV h.mass * h.form * (3 * cosV d - 2 * cosV h.angle) * sinV d) 1000000000
/-- The greatest force up to angle i, and its angle. -/
def bestV (h : Hung) : Nat → Int × Int
  | 0 => (horV h 0, 0)
  | i + 1 => if (bestV h i).1 < horV h ((i + 1 : Nat) : Int) then (horV h ((i + 1 : Nat) : Int), ((i + 1 : Nat) : Int)) else bestV h i
def lenOf (h : Hung) : Int := nearV (1000 * h.arm) h.form
def qOf (h : Hung) : Int := (sinV (h.angle.tdiv 2) * sinV (h.angle.tdiv 2)).tdiv 1000
def rOf (h : Hung) : Int := rootV ((40243 * lenOf h).tdiv 100)
def perV (h : Hung) : Int := rOf h + nearV (rOf h * (16000 * qOf h + 9 * qOf h * qOf h)) 64000000
def rateV (h : Hung) : Int := nearV 1000000 (max (perV h) 1)
def swingV (h : Hung) : Swing := ⟨h.bell, rateV h, (bestV h h.angle.toNat).1⟩
def swingOk (s : Swing) : Bool := isName s.bell && (decide (100 ≤ s.rate) && decide (s.rate ≤ 5000)) && (decide (1 ≤ s.force) && decide (s.force ≤ 1000000))

/-! ### Bounds -/
theorem weight_le {m : Int} (h0 : 1 ≤ m) (h1 : m ≤ 20000000) : 0 ≤ weightV m ∧ weightV m ≤ 196200 := by
  have h2 := near_nonneg (a := m * 981) (b := 100000) (by decide) (by omega)
  have h3 := near_le (a := m * 981) (b := 100000) (M := 196200) (by decide) (by decide) (by omega) (by omega)
  exact ⟨h2, h3.2⟩
theorem wf_le {h : Hung} (k : HungIn h) : 0 ≤ weightV h.mass * h.form ∧ weightV h.mass * h.form ≤ 196200000 := by
  obtain ⟨h1, h2⟩ := weight_le k.m0 k.m1
  refine ⟨Int.mul_nonneg h1 (by have := k.f0; omega), ?_⟩
  have := Int.mul_le_mul h2 k.f1 (by have := k.f0; omega) (by omega)
  omega
theorem hor_le {h : Hung} (k : HungIn h) (d : Int) : -981000000000 ≤ weightV h.mass * h.form * (3 * cosV d - 2 * cosV h.angle) ∧ weightV h.mass * h.form * (3 * cosV d - 2 * cosV h.angle) ≤ 981000000000 ∧
    Mid (weightV h.mass * h.form * (3 * cosV d - 2 * cosV h.angle) * sinV d) := by
  obtain ⟨h1, h2⟩ := wf_le k
  have c1 := sinV_le (turnV d + 90)
  have c2 := sinV_le (turnV h.angle + 90)
  have s := sinV_le d
  change -1000 ≤ cosV d ∧ cosV d ≤ 1000 at c1
  change -1000 ≤ cosV h.angle ∧ cosV h.angle ≤ 1000 at c2
  have e1 := mul_le_abs (a := weightV h.mass * h.form) (b := 3 * cosV d - 2 * cosV h.angle) (A := 196200000) (B := 5000) (by decide) (by decide) (by omega) h2 (by omega) (by omega)
  generalize weightV h.mass * h.form * (3 * cosV d - 2 * cosV h.angle) = x at *
  have e2 := mul_le_abs (a := x) (b := sinV d) (A := 981000000000) (B := 1000) (by decide) (by decide) (by omega) (by omega) (by omega) (by omega)
  exact ⟨by omega, by omega, by omega, by omega⟩
theorem len_le {h : Hung} (k : HungIn h) : 0 ≤ lenOf h ∧ lenOf h ≤ 30000000 := by
  have h1 := k.a0
  have h2 := k.a1
  have h3 := k.f0
  refine ⟨near_nonneg (by omega) (by omega), ?_⟩
  have hm : h.form * 30000000 ≥ 30000000 := by omega
  exact (near_le (M := 30000000) (by omega) (by decide) (by omega) (by omega)).2
theorem r_le {h : Hung} (k : HungIn h) : 0 ≤ rOf h ∧ rOf h ≤ 200000 ∧ 0 ≤ (40243 * lenOf h).tdiv 100 ∧ (40243 * lenOf h).tdiv 100 ≤ 12072900000 := by
  obtain ⟨h1, h2⟩ := len_le k
  have e : (40243 * lenOf h).tdiv 100 = (40243 * lenOf h) / 100 := Int.tdiv_eq_ediv_of_nonneg (by omega)
  have h3 : 0 ≤ (40243 * lenOf h).tdiv 100 ∧ (40243 * lenOf h).tdiv 100 ≤ 12072900000 := by rw [e]; omega
  have := rootV_le (n := (40243 * lenOf h).tdiv 100) (M := 200000) (by decide) (by omega) h3.1
  exact ⟨this.1, this.2, h3.1, h3.2⟩
theorem q_le (h : Hung) : 0 ≤ sinV (h.angle.tdiv 2) * sinV (h.angle.tdiv 2) ∧ sinV (h.angle.tdiv 2) * sinV (h.angle.tdiv 2) ≤ 1000000 ∧ 0 ≤ qOf h ∧ qOf h ≤ 1000 := by
  have s := sinV_le (h.angle.tdiv 2)
  have e1 := mul_le_abs (a := sinV (h.angle.tdiv 2)) (b := sinV (h.angle.tdiv 2)) (A := 1000) (B := 1000) (by decide) (by decide) (by omega) (by omega) (by omega) (by omega)
  have e0 : 0 ≤ sinV (h.angle.tdiv 2) * sinV (h.angle.tdiv 2) := by
    rcases Int.le_total 0 (sinV (h.angle.tdiv 2)) with g | g
    · exact Int.mul_nonneg g g
    · exact Int.mul_nonneg_of_nonpos_of_nonpos g g
  have e2 : qOf h = (sinV (h.angle.tdiv 2) * sinV (h.angle.tdiv 2)) / 1000 := Int.tdiv_eq_ediv_of_nonneg e0
  exact ⟨e0, by omega, by rw [e2]; omega, by rw [e2]; omega⟩
theorem per_le {h : Hung} (k : HungIn h) : 0 ≤ 9 * qOf h * qOf h ∧ 9 * qOf h * qOf h ≤ 9000000 ∧ 0 ≤ rOf h * (16000 * qOf h + 9 * qOf h * qOf h) ∧ rOf h * (16000 * qOf h + 9 * qOf h * qOf h) ≤ 5000000000000 ∧ 0 ≤ perV h ∧ perV h ≤ 300000 := by
  obtain ⟨r0, r1, _⟩ := r_le k
  obtain ⟨_, _, q0, q1⟩ := q_le h
  have e1 := mul_le_abs (a := 9 * qOf h) (b := qOf h) (A := 9000) (B := 1000) (by decide) (by decide) (by omega) (by omega) (by omega) (by omega)
  have e0 : 0 ≤ 9 * qOf h * qOf h := Int.mul_nonneg (by omega) q0
  have hp : perV h = rOf h + nearV (rOf h * (16000 * qOf h + 9 * qOf h * qOf h)) 64000000 := rfl
  rw [hp]
  generalize 9 * qOf h * qOf h = y at *
  have e2 := mul_le_abs (a := rOf h) (b := 16000 * qOf h + y) (A := 200000) (B := 25000000) (by decide) (by decide) (by omega) (by omega) (by omega) (by omega)
  have e3 : 0 ≤ rOf h * (16000 * qOf h + y) := Int.mul_nonneg r0 (by omega)
  have e4 := near_le (a := rOf h * (16000 * qOf h + y)) (b := 64000000) (M := 78125) (by decide) (by decide) (by omega) (by omega)
  have e5 := near_nonneg (a := rOf h * (16000 * qOf h + y)) (b := 64000000) (by decide) e3
  exact ⟨e0, by omega, e3, by omega, by omega, by omega⟩

/-! ### Contracts -/
theorem c_weightOf (m : Int) (h0 : 1 ≤ m) (h1 : m ≤ 20000000) : HFn Tryz.prog 314 [.int .i64 m] [] (.int .i64 (weightV m)) [] := by
  refine hfn_intro hm Tryz.func314 (by kernel_rfl) rfl (by kernel_rfl) rfl ret0_ok ?_
  have w1 : IntKind.i64.wrap (m * 981) = m * 981 := w64 (by omega) (by omega)
  simp [w1]
  refine CallZ.use0 (c_nearest _ _ ⟨by omega, by omega⟩ (by decide) (by decide)) rfl rfl ?_
  simp [weightV]
theorem c_l19Weight (m : Int) (h0 : 1 ≤ m) (h1 : m ≤ 20000000) : HFn Tryz.prog 305 [.int .i64 m] [] (.int .i64 (weightV m)) [] := by
  refine hfn_intro hm Tryz.func305 (by kernel_rfl) rfl (by kernel_rfl) rfl ret0_ok ?_
  have w1 : IntKind.i64.wrap (m * 981) = m * 981 := w64 (by omega) (by omega)
  simp [w1]
  refine CallZ.use0 (c_l01Div _ _ ⟨by omega, by omega⟩ (by decide) (by decide)) rfl rfl ?_
  simp [weightV]
theorem c_horizontal (h : Hung) (k : HungIn h) (d : Int) (hd : Mid d) : HFn Tryz.prog 282 [.agg h.cells, .int .i64 d] [] (.int .i64 (horV h d)) [] := by
  have kw := c_weightOf h.mass k.m0 k.m1
  have k1 := c_CosineOf d hd
  have k2 := c_SineOf d hd
  have k3 := c_CosineOf h.angle ⟨by have := k.g0; omega, by have := k.g1; omega⟩
  obtain ⟨u1, u2⟩ := wf_le k
  obtain ⟨v1, v2, v3⟩ := hor_le k d
  have c1 := sinV_le (turnV d + 90)
  have c2 := sinV_le (turnV h.angle + 90)
  change -1000 ≤ cosV d ∧ cosV d ≤ 1000 at c1
  change -1000 ≤ cosV h.angle ∧ cosV h.angle ≤ 1000 at c2
  have kn := c_nearest _ 1000000000 v3 (by decide) (by decide)
  have e : horV h d = nearV (weightV h.mass * h.form * (3 * cosV d - 2 * cosV h.angle) * sinV d) 1000000000 := rfl
  rw [← e] at kn
  clear e
  have w1 : IntKind.i64.wrap (weightV h.mass * h.form) = weightV h.mass * h.form := w64 (by omega) (by omega)
  have w2 : IntKind.i64.wrap (3 * cosV d) = 3 * cosV d := w64 (by omega) (by omega)
  have w3 : IntKind.i64.wrap (2 * cosV h.angle) = 2 * cosV h.angle := w64 (by omega) (by omega)
  have w4 : IntKind.i64.wrap (3 * cosV d - 2 * cosV h.angle) = 3 * cosV d - 2 * cosV h.angle := w64 (by omega) (by omega)
  have w5 : IntKind.i64.wrap (weightV h.mass * h.form * (3 * cosV d - 2 * cosV h.angle)) = weightV h.mass * h.form * (3 * cosV d - 2 * cosV h.angle) := w64 (by omega) (by omega)
  have w6 : IntKind.i64.wrap (weightV h.mass * h.form * (3 * cosV d - 2 * cosV h.angle) * sinV d) = weightV h.mass * h.form * (3 * cosV d - 2 * cosV h.angle) * sinV d := w64 (by have := v3.1; omega) (by have := v3.2; omega)
  refine hfn_intro hm Tryz.func282 (by kernel_rfl) rfl (by kernel_rfl) rfl ret0_ok ?_
  simp [Hung.cells]
  refine CallZ.use0 kw rfl rfl ?_
  simp
  refine CallZ.use0 k1 rfl rfl ?_
  simp
  refine CallZ.use0 k2 rfl rfl ?_
  simp
  refine CallZ.use0 k3 rfl rfl ?_
  simp [w1, w2, w3, w4, w5, w6]
  refine CallZ.use0 kn rfl rfl ?_
  simp
theorem c_l19Horizontal (h : Hung) (k : HungIn h) (d : Int) (hd : Mid d) (rows : List (List PV)) (i : Nat) (hr : rows[i]? = some h.cells) : HFn Tryz.prog 259 [.pe 5 rows i 0, .int .i64 d] [] (.int .i64 (horV h d)) [] := by
  have hi : i < rows.length := (List.getElem?_eq_some_iff.1 hr).1
  have hx : rows[i] = h.cells := by rw [List.getElem?_eq_getElem hi] at hr; exact Option.some.inj hr
  have kw := c_l19Weight h.mass k.m0 k.m1
  have k1 := c_l19Cosine d hd
  have k2 := c_l19Sine d hd
  have k3 := c_l19Cosine h.angle ⟨by have := k.g0; omega, by have := k.g1; omega⟩
  obtain ⟨u1, u2⟩ := wf_le k
  obtain ⟨v1, v2, v3⟩ := hor_le k d
  have c1 := sinV_le (turnV d + 90)
  have c2 := sinV_le (turnV h.angle + 90)
  change -1000 ≤ cosV d ∧ cosV d ≤ 1000 at c1
  change -1000 ≤ cosV h.angle ∧ cosV h.angle ≤ 1000 at c2
  have kn := c_l01Div _ 1000000000 v3 (by decide) (by decide)
  have e : horV h d = nearV (weightV h.mass * h.form * (3 * cosV d - 2 * cosV h.angle) * sinV d) 1000000000 := rfl
  rw [← e] at kn
  clear e
  have w1 : IntKind.i64.wrap (weightV h.mass * h.form) = weightV h.mass * h.form := w64 (by omega) (by omega)
  have w2 : IntKind.i64.wrap (3 * cosV d) = 3 * cosV d := w64 (by omega) (by omega)
  have w3 : IntKind.i64.wrap (2 * cosV h.angle) = 2 * cosV h.angle := w64 (by omega) (by omega)
  have w4 : IntKind.i64.wrap (3 * cosV d - 2 * cosV h.angle) = 3 * cosV d - 2 * cosV h.angle := w64 (by omega) (by omega)
  have w5 : IntKind.i64.wrap (weightV h.mass * h.form * (3 * cosV d - 2 * cosV h.angle)) = weightV h.mass * h.form * (3 * cosV d - 2 * cosV h.angle) := w64 (by omega) (by omega)
  have w6 : IntKind.i64.wrap (weightV h.mass * h.form * (3 * cosV d - 2 * cosV h.angle) * sinV d) = weightV h.mass * h.form * (3 * cosV d - 2 * cosV h.angle) * sinV d := w64 (by have := v3.1; omega) (by have := v3.2; omega)
  refine hfn_intro hm Tryz.func259 (by kernel_rfl) rfl (by kernel_rfl) rfl ret0_ok ?_
  rw [Hung.cells] at hx
  simp [hi, hx]
  refine CallZ.use0 kw rfl rfl ?_
  simp [hi, hx, w1]
  refine CallZ.use0 k1 rfl rfl ?_
  simp [hi, hx, w2]
  refine CallZ.use0 k3 rfl rfl ?_
  simp [w3, w4, w5]
  refine CallZ.use0 k2 rfl rfl ?_
  simp [w6]
  refine CallZ.use0 kn rfl rfl ?_
  simp
end Go.Proofs.YtaidbadmhepccaaGreatDoor
