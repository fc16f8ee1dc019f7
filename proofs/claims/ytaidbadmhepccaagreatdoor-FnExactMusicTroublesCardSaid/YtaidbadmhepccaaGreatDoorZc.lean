/- Hung bells and their swings: plain law and contracts. No condition. Swings of hung bells: contracts. No condition. -/
import Derived.Test.YtaidbadmhepccaaGreatDoorZa
import Derived.Test.YtaidbadmhepccaaGreatDoorCe
import Derived.Test.YtaidbadmhepccaaGreatDoorTI
import Derived.Test.YtaidbadmhepccaaGreatDoorTFlat
namespace Go.Proofs.YtaidbadmhepccaaGreatDoor
open Go Go.Ab
set_option maxRecDepth 100000

def hungOk (h : Hung) : Bool := isName h.bell && (decide (1 ≤ h.mass) && decide (h.mass ≤ 20000000)) && (decide (1 ≤ h.arm) && decide (h.arm ≤ 30000)) && (decide (1 ≤ h.form) && decide (h.form ≤ 1000)) && (decide (1 ≤ h.angle) && decide (h.angle ≤ 180))
structure HungIn (h : Hung) : Prop where
  m0 : 1 ≤ h.mass
  m1 : h.mass ≤ 20000000
  a0 : 1 ≤ h.arm
  a1 : h.arm ≤ 30000
  f0 : 1 ≤ h.form
  f1 : h.form ≤ 1000
  g0 : 1 ≤ h.angle
  g1 : h.angle ≤ 180
def lenOf (h : Hung) : Int := nearV (1000 * h.arm) h.form
/-! ### Bounds -/
/-! ### Contracts -/
end Go.Proofs.YtaidbadmhepccaaGreatDoor

namespace Go.Proofs.YtaidbadmhepccaaGreatDoor
open Go Go.Ab
set_option maxRecDepth 100000

theorem c_impl_ValidHung (h : Hung) : HFn Tryz.prog 224 [.agg h.cells] [] (.bool (hungOk h)) [] := by
  refine hfn_intro hm Tryz.func224 (by kernel_rfl) rfl (by kernel_rfl) rfl ret0_ok ?_
  simp [Hung.cells]
  refine CallZ.use0 (c_impl_IsName _) rfl rfl ?_
  simp
  first | refine CallY.use (fun _ => ⟨rfl, c_isMass _⟩) rfl rfl ?_ | refine ⟨by intros; simp [*], CallY.use (fun _ => ⟨rfl, c_isMass _⟩) rfl rfl ?_⟩
  simp
  first | refine CallY.use (fun _ => ⟨rfl, c_within _ _ _⟩) rfl rfl ?_ | refine ⟨by intros; simp [*], CallY.use (fun _ => ⟨rfl, c_within _ _ _⟩) rfl rfl ?_⟩
  simp
  first | refine CallY.use (fun _ => ⟨rfl, c_within _ _ _⟩) rfl rfl ?_ | refine ⟨by intros; simp [*], CallY.use (fun _ => ⟨rfl, c_within _ _ _⟩) rfl rfl ?_⟩
  simp
  first | refine CallY.use (fun _ => ⟨rfl, c_within _ _ _⟩) rfl rfl ?_ | refine ⟨by intros; simp [*], CallY.use (fun _ => ⟨rfl, c_within _ _ _⟩) rfl rfl ?_⟩
  simp [hungOk]
theorem c_l19Ok (h : Hung) (rows : List (List PV)) (i : Nat) (hr : rows[i]? = some h.cells) : HFn Tryz.prog 186 [.pe 5 rows i 0] [] (.bool (hungOk h)) [] := by
  have hi : i < rows.length := (List.getElem?_eq_some_iff.1 hr).1
  have hx : rows[i] = h.cells := by rw [List.getElem?_eq_getElem hi] at hr; exact Option.some.inj hr
  refine hfn_intro hm Tryz.func186 (by kernel_rfl) rfl (by kernel_rfl) rfl ret0_ok ?_
  rw [Hung.cells] at hr hx
  simp [hi, hx]
  refine CallZ.use0 (c_spec_l01Name _) rfl rfl ?_
  simp [hi, hx]
  first | refine CallY.use (fun _ => ⟨rfl, c_l00In _ _ _⟩) rfl rfl ?_ | refine ⟨by intros; simp [*], CallY.use (fun _ => ⟨rfl, c_l00In _ _ _⟩) rfl rfl ?_⟩
  simp [hi, hx]
  first | refine CallY.use (fun _ => ⟨rfl, c_l00In _ _ _⟩) rfl rfl ?_ | refine ⟨by intros; simp [*], CallY.use (fun _ => ⟨rfl, c_l00In _ _ _⟩) rfl rfl ?_⟩
  simp [hi, hx]
  first | refine CallY.use (fun _ => ⟨rfl, c_l00In _ _ _⟩) rfl rfl ?_ | refine ⟨by intros; simp [*], CallY.use (fun _ => ⟨rfl, c_l00In _ _ _⟩) rfl rfl ?_⟩
  simp [hi, hx]
  first | refine CallY.use (fun _ => ⟨rfl, c_l00In _ _ _⟩) rfl rfl ?_ | refine ⟨by intros; simp [*], CallY.use (fun _ => ⟨rfl, c_l00In _ _ _⟩) rfl rfl ?_⟩
  simp [hungOk]
/-- Hung bell i of a list is valid, and stands behind the one before it. -/
def hungAt (l : List Hung) (i : Nat) : Bool := match l[i]? with
  | some x => hungOk x && (decide (i = 0) || match l[i - 1]? with
    | some y => Op.bytesLess y.bell x.bell
    | none => true)
  | none => true
def hungsOk (l : List Hung) : Bool := (List.range l.length).all (hungAt l) && decide ((l.length : Int) ≤ 16)
theorem hungs_mem {l : List Hung} (h : hungsOk l = true) : l.length ≤ 16 ∧ ∀ x ∈ l, hungOk x = true := by
  simp only [hungsOk, Bool.and_eq_true, List.all_eq_true, List.mem_range, decide_eq_true_eq] at h
  refine ⟨by omega, fun x hx => ?_⟩
  obtain ⟨i, hi, rfl⟩ := List.getElem_of_mem hx
  have := h.1 i hi
  simp only [hungAt, List.getElem?_eq_getElem hi, Bool.and_eq_true] at this
  exact this.1
theorem c_validHungs (l : List Hung) (hl : l.length ≤ 1048576) : HFn Tryz.prog 157 [.sl 5 (Hung.rows l)] [] (.bool (hungsOk l)) [] := by
  refine hfn_intro hm Tryz.func157 (by kernel_rfl) rfl (by kernel_rfl) rfl ret0_ok ?_
  simp [Hung.rows]
  refine loop_upto hm l.length (fun i => ⟨[(0, .sl 5 (Hung.rows l)), (5, .sl 5 (Hung.rows l)), (6, .int .i64 l.length), (7, .int .i64 i)], []⟩) (fun i => ∀ j, j < i → hungAt l j = true) (by kernel_rfl) ?_ (by simp) (fun i hi hI => ?_) (fun hI => ?_)
  · exact Wk.weak (ρ := []) (φ := []) (by simp [Hung.rows])
  · have e1 : IntKind.i64.wrap ((i : Int) - 1) = i - 1 := w64 (by omega) (by omega)
    obtain ⟨y, hy⟩ : ∃ y, l[i - 1]? = some y := ⟨_, List.getElem?_eq_getElem (by omega)⟩
    have hx := List.getElem?_eq_getElem hi
    have kv := c_impl_ValidHung l[i]
    simp only [Hung.cells] at kv
    simp [Hung.rows, Hung.cells, hi]
    refine CallZ.use0 kv rfl rfl ?_
    simp [Hung.cells, hy, e1]
    have ho : hungAt l i = (hungOk l[i] && (decide (i = 0) || Op.bytesLess y.bell l[i].bell)) := by simp [hungAt, hx, hy]
    have hs := bytesLess_swap y.bell l[i].bell
    iterate 6 refine ⟨by grind, ?_⟩
    refine ⟨fun h => ?_, fun h1 h2 => ⟨upto_succ hI ?_, ?_⟩⟩
    · have : hungAt l i = false := by
        rw [ho]
        rcases h with h | ⟨h, h'⟩
        · simp [h]
        · have h3 : (Op.bytesLess l[i].bell y.bell || decide (l[i].bell = y.bell)) = true := by simpa using h'
          rw [hs] at h3
          have h4 : ¬ i = 0 := by omega
          simp at h3
          simp [h3, h4]
      simp only [hungsOk, all_range_false hi this, Bool.false_and]
    · rw [ho]
      rw [h1, Bool.true_and]
      by_cases h4 : i = 0
      · simp [h4]
      · obtain ⟨h5, h6⟩ := h2 (by omega)
        simp [h5, h6] at hs
        simp [hs]
    · refine Wk.weak (ρ := []) (φ := []) ?_
      simp
      exact w64 (by omega) (by omega)
  · simp [Hung.rows]
    simp only [hungsOk, all_range_true hI, Bool.true_and]
theorem c_l31Hung (l : List Hung) (hl : l.length ≤ 1048576) : HFn Tryz.prog 114 [.sl 5 (Hung.rows l)] [] (.bool (hungsOk l)) [] := by
  refine hfn_intro hm Tryz.func114 (by kernel_rfl) rfl (by kernel_rfl) rfl ret0_ok ?_
  simp [Hung.rows]
  refine loop_upto hm l.length (fun i => ⟨[(0, .sl 5 (Hung.rows l)), (3, .int .i64 i)], []⟩) (fun i => ∀ j, j < i → hungAt l j = true) (by kernel_rfl) ?_ (by simp) (fun i hi hI => ?_) (fun hI => ?_)
  · exact Wk.weak (ρ := []) (φ := []) (by simp [Hung.rows])
  · have e1 : IntKind.i64.wrap ((i : Int) - 1) = i - 1 := w64 (by omega) (by omega)
    obtain ⟨y, hy⟩ : ∃ y, l[i - 1]? = some y := ⟨_, List.getElem?_eq_getElem (by omega)⟩
    have hx := List.getElem?_eq_getElem hi
    simp [Hung.rows, hi]
    refine CallZ.use0 (c_l19Ok l[i] _ _ (by simp [hi])) rfl rfl ?_
    simp [Hung.cells, hi, hy, e1]
    have ho : hungAt l i = (hungOk l[i] && (decide (i = 0) || Op.bytesLess y.bell l[i].bell)) := by simp [hungAt, hx, hy]
    iterate 6 refine ⟨by grind, ?_⟩
    refine ⟨fun h => ?_, fun h1 h2 => ⟨upto_succ hI ?_, ?_⟩⟩
    · have : hungAt l i = false := by
        rw [ho]
        rcases h with h | ⟨h, h'⟩
        · simp [h]
        · have h4 : ¬ i = 0 := by omega
          simp [h', h4]
      simp only [hungsOk, all_range_false hi this, Bool.false_and]
    · rw [ho, h1, Bool.true_and]
      by_cases h4 : i = 0
      · simp [h4]
      · simp [h2 (by omega)]
    · refine Wk.weak (ρ := []) (φ := []) ?_
      simp
      exact w64 (by omega) (by omega)
  · simp [Hung.rows]
    simp only [hungsOk, all_range_true hI, Bool.true_and]

end Go.Proofs.YtaidbadmhepccaaGreatDoor
