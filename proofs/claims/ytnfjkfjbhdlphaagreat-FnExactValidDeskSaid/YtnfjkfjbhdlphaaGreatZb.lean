/- Hung bells and their swings: plain law and contracts. No condition. -/
import Derived.Test.YtnfjkfjbhdlphaaGreatZa
import Derived.Test.YtnfjkfjbhdlphaaGreatCa
import Derived.Test.YtnfjkfjbhdlphaaGreatCe
import Derived.Test.YtnfjkfjbhdlphaaGreatCf
import Derived.Test.YtnfjkfjbhdlphaaGreatCk
import Derived.Test.YtnfjkfjbhdlphaaGreatTFlat
namespace Go.Proofs.YtnfjkfjbhdlphaaGreat
open Go Go.Ab
set_option maxRecDepth 100000

def hungOk (h : Hung) : Bool := isName h.bell && (decide (1 ≤ h.mass) && decide (h.mass ≤ 20000000)) && (decide (1 ≤ h.arm) && decide (h.arm ≤ 30000)) && (decide (1 ≤ h.form) && decide (h.form ≤ 1000)) && (decide (1 ≤ h.angle) && decide (h.angle ≤ 180))
structure HungIn (h : Hung) : Prop where
  m0 : 1 ≤ h.mass
  m1 : h.mass ≤ 20000000
  a0 : 1 ≤ h.arm
  a1 : h.arm ≤ 30000
  f0 : 1 ≤ h.form
  f1 : h.form ≤ 1000
  g0 : 1 ≤ h.angle
  g1 : h.angle ≤ 180
theorem hung_in {h : Hung} (k : hungOk h = true) : HungIn h := by
  simp only [hungOk, Bool.and_eq_true, decide_eq_true_eq] at k
  obtain ⟨⟨⟨⟨_, k1, k2⟩, k3, k4⟩, k5, k6⟩, k7, k8⟩ := k
  exact ⟨k1, k2, k3, k4, k5, k6, k7, k8⟩
def weightV (m : Int) : Int := nearV (m * 981) 100000
def horV (h : Hung) (d : Int) : Int := nearV (weightV h.mass * h.form * (3 * cosV d - 2 * cosV h.angle) * sinV d) 1000000000
/-- The greatest force up to angle i, and its angle. -/
def bestV (h : Hung) : Nat → Int × Int
  | 0 => (horV h 0, 0)
  | i + 1 => if (bestV h i).1 < horV h ((i + 1 : Nat) : Int) then (horV h ((i + 1 : Nat) : Int), ((i + 1 : Nat) : Int)) else bestV h i
def lenOf (h : Hung) : Int := nearV (1000 * h.arm) h.form
def qOf (h : Hung) : Int := (sinV (h.angle.tdiv 2) * sinV (h.angle.tdiv 2)).tdiv 1000
def rOf (h : Hung) : Int := rootV ((40243 * lenOf h).tdiv 100)
def perV (h : Hung) : Int := rOf h + nearV (rOf h * (16000 * qOf h + 9 * qOf h * qOf h)) 64000000
def rateV (h : Hung) : Int := nearV 1000000 (max (perV h) 1)
/-! ### Bounds -/
theorem weight_le {m : Int} (h0 : 1 ≤ m) (h1 : m ≤ 20000000) : 0 ≤ weightV m ∧ weightV m ≤ 196200 := by
  have h2 := near_nonneg (a := m * 981) (b := 100000) (by decide) (by omega)
  have h3 := near_le (a := m * 981) (b := 100000) (M := 196200) (by decide) (by decide) (by omega) (by omega)
  exact ⟨h2, h3.2⟩
theorem wf_le {h : Hung} (k : HungIn h) : 0 ≤ weightV h.mass * h.form ∧ weightV h.mass * h.form ≤ 196200000 := by
  obtain ⟨h1, h2⟩ := weight_le k.m0 k.m1
  refine ⟨Int.mul_nonneg h1 (by have := k.f0; omega), ?_⟩
  have := Int.mul_le_mul h2 k.f1 (by have := k.f0; omega) (by omega)
  omega
theorem hor_le {h : Hung} (k : HungIn h) (d : Int) : -981000000000 ≤ weightV h.mass * h.form * (3 * cosV d - 2 * cosV h.angle) ∧ weightV h.mass * h.form * (3 * cosV d - 2 * cosV h.angle) ≤ 981000000000 ∧
    Mid (weightV h.mass * h.form * (3 * cosV d - 2 * cosV h.angle) * sinV d) := by
  obtain ⟨h1, h2⟩ := wf_le k
  have c1 := sinV_le (turnV d + 90)
  have c2 := sinV_le (turnV h.angle + 90)
  have s := sinV_le d
  change -1000 ≤ cosV d ∧ cosV d ≤ 1000 at c1
  change -1000 ≤ cosV h.angle ∧ cosV h.angle ≤ 1000 at c2
  have e1 := mul_le_abs (a := weightV h.mass * h.form) (b := 3 * cosV d - 2 * cosV h.angle) (A := 196200000) (B := 5000) (by decide) (by decide) (by omega) h2 (by omega) (by omega)
  generalize weightV h.mass * h.form * (3 * cosV d - 2 * cosV h.angle) = x at *
  have e2 := mul_le_abs (a := x) (b := sinV d) (A := 981000000000) (B := 1000) (by decide) (by decide) (by omega) (by omega) (by omega) (by omega)
  exact ⟨by omega, by omega, by omega, by omega⟩
theorem horV_le {h : Hung} (k : HungIn h) (d : Int) : -1000000 ≤ horV h d ∧ horV h d ≤ 1000000 := by
  obtain ⟨_, _, e⟩ := hor_le k d
  obtain ⟨h1, h2⟩ := wf_le k
  have c1 := sinV_le (turnV d + 90)
  have c2 := sinV_le (turnV h.angle + 90)
  have s := sinV_le d
  change -1000 ≤ cosV d ∧ cosV d ≤ 1000 at c1
  change -1000 ≤ cosV h.angle ∧ cosV h.angle ≤ 1000 at c2
  have e1 := mul_le_abs (a := weightV h.mass * h.form) (b := 3 * cosV d - 2 * cosV h.angle) (A := 196200000) (B := 5000) (by decide) (by decide) (by omega) h2 (by omega) (by omega)
  unfold horV
  generalize weightV h.mass * h.form * (3 * cosV d - 2 * cosV h.angle) = x at *
  have e2 := mul_le_abs (a := x) (b := sinV d) (A := 981000000000) (B := 1000) (by decide) (by decide) (by omega) (by omega) (by omega) (by omega)
  exact near_le (M := 1000000) (by decide) (by decide) (by omega) (by omega)
theorem best_le {h : Hung} (k : HungIn h) : ∀ i, -1000000 ≤ (bestV h i).1 ∧ (bestV h i).1 ≤ 1000000
  | 0 => horV_le k 0
  | i + 1 => by
    unfold bestV
    split
    · exact horV_le k _
    · exact best_le k i
theorem len_le {h : Hung} (k : HungIn h) : 0 ≤ lenOf h ∧ lenOf h ≤ 30000000 := by
  have h1 := k.a0
  have h2 := k.a1
  have h3 := k.f0
  refine ⟨near_nonneg (by omega) (by omega), ?_⟩
  have hm : h.form * 30000000 ≥ 30000000 := by omega
  exact (near_le (M := 30000000) (by omega) (by decide) (by omega) (by omega)).2
theorem r_le {h : Hung} (k : HungIn h) : 0 ≤ rOf h ∧ rOf h ≤ 200000 ∧ 0 ≤ (40243 * lenOf h).tdiv 100 ∧ (40243 * lenOf h).tdiv 100 ≤ 12072900000 := by
  obtain ⟨h1, h2⟩ := len_le k
  have e : (40243 * lenOf h).tdiv 100 = (40243 * lenOf h) / 100 := Int.tdiv_eq_ediv_of_nonneg (by omega)
  have h3 : 0 ≤ (40243 * lenOf h).tdiv 100 ∧ (40243 * lenOf h).tdiv 100 ≤ 12072900000 := by rw [e]; omega
  have := rootV_le (n := (40243 * lenOf h).tdiv 100) (M := 200000) (by decide) (by omega) h3.1
  exact ⟨this.1, this.2, h3.1, h3.2⟩
theorem q_le (h : Hung) : 0 ≤ sinV (h.angle.tdiv 2) * sinV (h.angle.tdiv 2) ∧ sinV (h.angle.tdiv 2) * sinV (h.angle.tdiv 2) ≤ 1000000 ∧ 0 ≤ qOf h ∧ qOf h ≤ 1000 := by
  have s := sinV_le (h.angle.tdiv 2)
  have e1 := mul_le_abs (a := sinV (h.angle.tdiv 2)) (b := sinV (h.angle.tdiv 2)) (A := 1000) (B := 1000) (by decide) (by decide) (by omega) (by omega) (by omega) (by omega)
  have e0 : 0 ≤ sinV (h.angle.tdiv 2) * sinV (h.angle.tdiv 2) := by
    rcases Int.le_total 0 (sinV (h.angle.tdiv 2)) with g | g
    · exact Int.mul_nonneg g g
    · exact Int.mul_nonneg_of_nonpos_of_nonpos g g
  have e2 : qOf h = (sinV (h.angle.tdiv 2) * sinV (h.angle.tdiv 2)) / 1000 := Int.tdiv_eq_ediv_of_nonneg e0
  exact ⟨e0, by omega, by rw [e2]; omega, by rw [e2]; omega⟩
theorem per_le {h : Hung} (k : HungIn h) : 0 ≤ 9 * qOf h * qOf h ∧ 9 * qOf h * qOf h ≤ 9000000 ∧ 0 ≤ rOf h * (16000 * qOf h + 9 * qOf h * qOf h) ∧ rOf h * (16000 * qOf h + 9 * qOf h * qOf h) ≤ 5000000000000 ∧ 0 ≤ perV h ∧ perV h ≤ 300000 := by
  obtain ⟨r0, r1, _⟩ := r_le k
  obtain ⟨_, _, q0, q1⟩ := q_le h
  have e1 := mul_le_abs (a := 9 * qOf h) (b := qOf h) (A := 9000) (B := 1000) (by decide) (by decide) (by omega) (by omega) (by omega) (by omega)
  have e0 : 0 ≤ 9 * qOf h * qOf h := Int.mul_nonneg (by omega) q0
  have hp : perV h = rOf h + nearV (rOf h * (16000 * qOf h + 9 * qOf h * qOf h)) 64000000 := rfl
  rw [hp]
  generalize 9 * qOf h * qOf h = y at *
  have e2 := mul_le_abs (a := rOf h) (b := 16000 * qOf h + y) (A := 200000) (B := 25000000) (by decide) (by decide) (by omega) (by omega) (by omega) (by omega)
  have e3 : 0 ≤ rOf h * (16000 * qOf h + y) := Int.mul_nonneg r0 (by omega)
  have e4 := near_le (a := rOf h * (16000 * qOf h + y)) (b := 64000000) (M := 78125) (by decide) (by decide) (by omega) (by omega)
  have e5 := near_nonneg (a := rOf h * (16000 * qOf h + y)) (b := 64000000) (by decide) e3
  exact ⟨e0, by omega, e3, by omega, by omega, by omega⟩

/-! ### Contracts -/
end Go.Proofs.YtnfjkfjbhdlphaaGreat
