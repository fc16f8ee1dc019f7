/- Contracts: the parts of a carillon are valid, one by one. No condition.; Contracts: slices.IndexFunc and slices.ContainsFunc at structs and at texts. No condition.; Contracts: bells, beams, keys and melts are valid, one by one. No condition.; Contracts: lists of the parts of a carillon are valid. No condition.; Contracts: melts and claviers are valid. No condition. -/
import Derived.Test.YtcjpfjklhhclmaaGreatDoorZd
import Derived.Test.YtcjpfjklhhclmaaGreatDoorUc
namespace Go.Proofs.YtcjpfjklhhclmaaGreatDoor
open Go Go.Ab
set_option maxRecDepth 100000

/-- Element i of a list is valid, and stands behind the one before it. -/
def upAt {α : Type} (ok : α → Bool) (lt : α → α → Bool) (l : List α) (i : Nat) : Bool := match l[i]? with
  | some x => ok x && (decide (i = 0) || match l[i - 1]? with
    | some y => lt y x
    | none => true)
  | none => true
def upOk {α : Type} (ok : α → Bool) (lt : α → α → Bool) (l : List α) : Bool := (List.range l.length).all (upAt ok lt l)
theorem upAt_eq {α : Type} (ok : α → Bool) (lt : α → α → Bool) {l : List α} {i : Nat} {x y : α} (hx : l[i]? = some x) (hy : l[i - 1]? = some y) : upAt ok lt l i = (ok x && (decide (i = 0) || lt y x)) := by simp [upAt, hx, hy]
theorem upOk_mem {α : Type} {ok : α → Bool} {lt : α → α → Bool} {l : List α} (h : upOk ok lt l = true) : ∀ x ∈ l, ok x = true := by
  simp only [upOk, List.all_eq_true, List.mem_range] at h
  intro x hx
  obtain ⟨i, hi, rfl⟩ := List.getElem_of_mem hx
  have := h i hi
  simp only [upAt, List.getElem?_eq_getElem hi, Bool.and_eq_true] at this
  exact this.1
theorem upOk_step {α : Type} {ok : α → Bool} {lt : α → α → Bool} {l : List α} (h : upOk ok lt l = true) {i : Nat} (hi : i < l.length) (h0 : 0 < i) : lt (l[i - 1]'(by omega)) l[i] = true := by
  simp only [upOk, List.all_eq_true, List.mem_range] at h
  have := h i hi
  have e2 : l[i - 1]? = some (l[i - 1]'(by omega)) := List.getElem?_eq_getElem (by omega)
  simp only [upAt, List.getElem?_eq_getElem hi, e2, Bool.and_eq_true, Bool.or_eq_true, decide_eq_true_eq] at this
  rcases this.2 with h | h
  · omega
  · exact h

theorem c_isPart (n : Int) : HFn Tryz.prog 339 [.int .i64 n] [] (.bool (decide (0 ≤ n) && decide (n ≤ 1000000))) [] := by
  refine hfn_intro hm Tryz.func339 (by kernel_rfl) rfl (by kernel_rfl) rfl ret0_ok ?_
  simp
  refine CallZ.use0 (c_within _ _ _) rfl rfl ?_
  simp
theorem c_isReach (n : Int) : HFn Tryz.prog 310 [.int .i64 n] [] (.bool (decide (1 ≤ n) && decide (n ≤ 5000))) [] := by
  refine hfn_intro hm Tryz.func310 (by kernel_rfl) rfl (by kernel_rfl) rfl ret0_ok ?_
  simp
  refine CallZ.use0 (c_within _ _ _) rfl rfl ?_
  simp
theorem c_isSpace (n : Int) : HFn Tryz.prog 195 [.int .i64 n] [] (.bool (decide (0 ≤ n) && decide (n ≤ 5000))) [] := by
  refine hfn_intro hm Tryz.func195 (by kernel_rfl) rfl (by kernel_rfl) rfl ret0_ok ?_
  simp
  refine CallZ.use0 (c_within _ _ _) rfl rfl ?_
  simp
theorem c_l23Gap (n : Int) : HFn Tryz.prog 44 [.int .i64 n] [] (.bool (decide (0 ≤ n) && decide (n ≤ 5000))) [] := by
  refine hfn_intro hm Tryz.func44 (by kernel_rfl) rfl (by kernel_rfl) rfl ret0_ok ?_
  simp
  refine CallZ.use0 (c_l00In _ _ _) rfl rfl ?_
  simp
theorem c_isSide (n : Int) : HFn Tryz.prog 312 [.int .i64 n] [] (.bool (decide (20 ≤ n) && decide (n ≤ 1000))) [] := by
  refine hfn_intro hm Tryz.func312 (by kernel_rfl) rfl (by kernel_rfl) rfl ret0_ok ?_
  simp
  refine CallZ.use0 (c_within _ _ _) rfl rfl ?_
  simp
theorem c_isArm (n : Int) : HFn Tryz.prog 315 [.int .i64 n] [] (.bool (decide (1 ≤ n) && decide (n ≤ 100000))) [] := by
  refine hfn_intro hm Tryz.func315 (by kernel_rfl) rfl (by kernel_rfl) rfl ret0_ok ?_
  simp
  refine CallZ.use0 (c_within _ _ _) rfl rfl ?_
  simp
theorem c_isSlack (n : Int) : HFn Tryz.prog 316 [.int .i64 n] [] (.bool (decide (0 ≤ n) && decide (n ≤ 10000))) [] := by
  refine hfn_intro hm Tryz.func316 (by kernel_rfl) rfl (by kernel_rfl) rfl ret0_ok ?_
  simp
  refine CallZ.use0 (c_within _ _ _) rfl rfl ?_
  simp

def alloyOk (c t r : Int) : Bool := (decide (0 ≤ c) && decide (c ≤ 1000000)) && (decide (0 ≤ t) && decide (t ≤ 1000000)) && (decide (0 ≤ r) && decide (r ≤ 1000000)) && decide (IntKind.i64.wrap (IntKind.i64.wrap (c + t) + r) = 1000000)
def ingotOk (x : Ingot) : Bool := isName x.id && (decide (1 ≤ x.mass) && decide (x.mass ≤ 20000000)) && alloyOk x.alloyCopper x.alloyTin x.alloyOther
def placeOk (x : Place) : Bool := isName x.bell && (decide (0 ≤ x.x) && decide (x.x ≤ 20000)) && (decide (0 ≤ x.y) && decide (x.y ≤ 20000)) && (decide (0 ≤ x.z) && decide (x.z ≤ 20000)) && (decide (1 ≤ x.reach) && decide (x.reach ≤ 5000))
def chamberOk (x : Chamber) : Bool := (decide (1 ≤ x.width) && decide (x.width ≤ 20000)) && (decide (1 ≤ x.length) && decide (x.length ≤ 20000)) && (decide (1 ≤ x.height) && decide (x.height ≤ 20000))
def towerOk (x : Tower) : Bool := isName x.name && (decide (100 ≤ x.sway) && decide (x.sway ≤ 10000)) && (decide (5 ≤ x.damping) && decide (x.damping ≤ 500)) && (decide (1 ≤ x.stiffness) && decide (x.stiffness ≤ 1000000)) && (decide (0 ≤ x.limit) && decide (x.limit ≤ 100000))

theorem c_ValidAlloy (c t r : Int) : HFn Tryz.prog 304 [.agg [.int .i64 c, .int .i64 t, .int .i64 r]] [] (.bool (alloyOk c t r)) [] := by
  refine hfn_intro hm Tryz.func304 (by kernel_rfl) rfl (by kernel_rfl) rfl ret0_ok ?_
  simp []
  first | refine CallZ.use0 (c_isPart _) rfl rfl ?_ | refine CallY.use (fun _ => ⟨rfl, c_isPart _⟩) rfl rfl ?_ | refine ⟨by intros; simp [*], CallY.use (fun _ => ⟨rfl, c_isPart _⟩) rfl rfl ?_⟩
  simp []
  first | refine CallZ.use0 (c_isPart _) rfl rfl ?_ | refine CallY.use (fun _ => ⟨rfl, c_isPart _⟩) rfl rfl ?_ | refine ⟨by intros; simp [*], CallY.use (fun _ => ⟨rfl, c_isPart _⟩) rfl rfl ?_⟩
  simp []
  first | refine CallZ.use0 (c_isPart _) rfl rfl ?_ | refine CallY.use (fun _ => ⟨rfl, c_isPart _⟩) rfl rfl ?_ | refine ⟨by intros; simp [*], CallY.use (fun _ => ⟨rfl, c_isPart _⟩) rfl rfl ?_⟩
  simp []
  simp [alloyOk]
  exact fun a b c d e f => ⟨⟨⟨a, b⟩, c, d⟩, e, f⟩
theorem c_l13Alloy (x : Ingot) (rows : List (List PV)) (i : Nat) (hr : rows[i]? = some x.cells) : HFn Tryz.prog 262 [.pe 5 rows i 2] [] (.bool (alloyOk x.alloyCopper x.alloyTin x.alloyOther)) [] := by
  have hi : i < rows.length := (List.getElem?_eq_some_iff.1 hr).1
  have hx : rows[i] = x.cells := (List.getElem?_eq_some_iff.1 hr).2
  rw [Ingot.cells] at hr hx
  refine hfn_intro hm Tryz.func262 (by kernel_rfl) rfl (by kernel_rfl) rfl ret0_ok ?_
  simp [hi, hx]
  first | refine CallZ.use0 (c_l00In _ _ _) rfl rfl ?_ | refine CallY.use (fun _ => ⟨rfl, c_l00In _ _ _⟩) rfl rfl ?_ | refine ⟨by intros; simp [*], CallY.use (fun _ => ⟨rfl, c_l00In _ _ _⟩) rfl rfl ?_⟩
  simp [hi, hx]
  first | refine CallZ.use0 (c_l00In _ _ _) rfl rfl ?_ | refine CallY.use (fun _ => ⟨rfl, c_l00In _ _ _⟩) rfl rfl ?_ | refine ⟨by intros; simp [*], CallY.use (fun _ => ⟨rfl, c_l00In _ _ _⟩) rfl rfl ?_⟩
  simp [hi, hx]
  first | refine CallZ.use0 (c_l00In _ _ _) rfl rfl ?_ | refine CallY.use (fun _ => ⟨rfl, c_l00In _ _ _⟩) rfl rfl ?_ | refine ⟨by intros; simp [*], CallY.use (fun _ => ⟨rfl, c_l00In _ _ _⟩) rfl rfl ?_⟩
  simp [hi, hx]
  simp [alloyOk]
  exact fun a b c d e f => ⟨⟨⟨a, b⟩, c, d⟩, e, f⟩
theorem c_validIngot (x : Ingot) : HFn Tryz.prog 263 [.agg x.cells] [] (.bool (ingotOk x)) [] := by
  refine hfn_intro hm Tryz.func263 (by kernel_rfl) rfl (by kernel_rfl) rfl ret0_ok ?_
  simp [Ingot.cells]
  first | refine CallZ.use0 (c_impl_IsName _) rfl rfl ?_ | refine CallY.use (fun _ => ⟨rfl, c_impl_IsName _⟩) rfl rfl ?_ | refine ⟨by intros; simp [*], CallY.use (fun _ => ⟨rfl, c_impl_IsName _⟩) rfl rfl ?_⟩
  simp
  first | refine CallZ.use0 (c_within _ _ _) rfl rfl ?_ | refine CallY.use (fun _ => ⟨rfl, c_within _ _ _⟩) rfl rfl ?_ | refine ⟨by intros; simp [*], CallY.use (fun _ => ⟨rfl, c_within _ _ _⟩) rfl rfl ?_⟩
  simp
  first | refine CallZ.use0 (c_ValidAlloy _ _ _) rfl rfl ?_ | refine CallY.use (fun _ => ⟨rfl, c_ValidAlloy _ _ _⟩) rfl rfl ?_ | refine ⟨by intros; simp [*], CallY.use (fun _ => ⟨rfl, c_ValidAlloy _ _ _⟩) rfl rfl ?_⟩
  simp
  simp [ingotOk, Bool.and_assoc]
theorem c_l13One (x : Ingot) (rows : List (List PV)) (i : Nat) (hr : rows[i]? = some x.cells) : HFn Tryz.prog 185 [.pe 5 rows i 0] [] (.bool (ingotOk x)) [] := by
  have hi : i < rows.length := (List.getElem?_eq_some_iff.1 hr).1
  have hx : rows[i] = x.cells := (List.getElem?_eq_some_iff.1 hr).2
  rw [Ingot.cells] at hr hx
  refine hfn_intro hm Tryz.func185 (by kernel_rfl) rfl (by kernel_rfl) rfl ret0_ok ?_
  simp [hi, hx]
  first | refine CallZ.use0 (c_spec_l01Name _) rfl rfl ?_ | refine CallY.use (fun _ => ⟨rfl, c_spec_l01Name _⟩) rfl rfl ?_ | refine ⟨by intros; simp [*], CallY.use (fun _ => ⟨rfl, c_spec_l01Name _⟩) rfl rfl ?_⟩
  simp [hi, hx]
  first | refine CallZ.use0 (c_l00In _ _ _) rfl rfl ?_ | refine CallY.use (fun _ => ⟨rfl, c_l00In _ _ _⟩) rfl rfl ?_ | refine ⟨by intros; simp [*], CallY.use (fun _ => ⟨rfl, c_l00In _ _ _⟩) rfl rfl ?_⟩
  simp
  first | refine CallZ.use0 (c_l13Alloy x rows i (by simp [hr, Ingot.cells])) rfl rfl ?_ | refine CallY.use (fun _ => ⟨rfl, c_l13Alloy x rows i (by simp [hr, Ingot.cells])⟩) rfl rfl ?_ | refine ⟨by intros; simp [*], CallY.use (fun _ => ⟨rfl, c_l13Alloy x rows i (by simp [hr, Ingot.cells])⟩) rfl rfl ?_⟩
  simp
  simp [ingotOk, Bool.and_assoc]
theorem c_validPlace (x : Place) : HFn Tryz.prog 269 [.agg x.cells] [] (.bool (placeOk x)) [] := by
  refine hfn_intro hm Tryz.func269 (by kernel_rfl) rfl (by kernel_rfl) rfl ret0_ok ?_
  simp [Place.cells]
  first | refine CallZ.use0 (c_impl_IsName _) rfl rfl ?_ | refine CallY.use (fun _ => ⟨rfl, c_impl_IsName _⟩) rfl rfl ?_ | refine ⟨by intros; simp [*], CallY.use (fun _ => ⟨rfl, c_impl_IsName _⟩) rfl rfl ?_⟩
  simp
  first | refine CallZ.use0 (c_within _ _ _) rfl rfl ?_ | refine CallY.use (fun _ => ⟨rfl, c_within _ _ _⟩) rfl rfl ?_ | refine ⟨by intros; simp [*], CallY.use (fun _ => ⟨rfl, c_within _ _ _⟩) rfl rfl ?_⟩
  simp
  first | refine CallZ.use0 (c_within _ _ _) rfl rfl ?_ | refine CallY.use (fun _ => ⟨rfl, c_within _ _ _⟩) rfl rfl ?_ | refine ⟨by intros; simp [*], CallY.use (fun _ => ⟨rfl, c_within _ _ _⟩) rfl rfl ?_⟩
  simp
  first | refine CallZ.use0 (c_within _ _ _) rfl rfl ?_ | refine CallY.use (fun _ => ⟨rfl, c_within _ _ _⟩) rfl rfl ?_ | refine ⟨by intros; simp [*], CallY.use (fun _ => ⟨rfl, c_within _ _ _⟩) rfl rfl ?_⟩
  simp
  first | refine CallZ.use0 (c_isReach _) rfl rfl ?_ | refine CallY.use (fun _ => ⟨rfl, c_isReach _⟩) rfl rfl ?_ | refine ⟨by intros; simp [*], CallY.use (fun _ => ⟨rfl, c_isReach _⟩) rfl rfl ?_⟩
  simp
  simp [placeOk, Bool.and_assoc]
theorem c_l23One (x : Place) (rows : List (List PV)) (i : Nat) (hr : rows[i]? = some x.cells) : HFn Tryz.prog 129 [.pe 5 rows i 0] [] (.bool (placeOk x)) [] := by
  have hi : i < rows.length := (List.getElem?_eq_some_iff.1 hr).1
  have hx : rows[i] = x.cells := (List.getElem?_eq_some_iff.1 hr).2
  rw [Place.cells] at hr hx
  refine hfn_intro hm Tryz.func129 (by kernel_rfl) rfl (by kernel_rfl) rfl ret0_ok ?_
  simp [hi, hx]
  first | refine CallZ.use0 (c_spec_l01Name _) rfl rfl ?_ | refine CallY.use (fun _ => ⟨rfl, c_spec_l01Name _⟩) rfl rfl ?_ | refine ⟨by intros; simp [*], CallY.use (fun _ => ⟨rfl, c_spec_l01Name _⟩) rfl rfl ?_⟩
  simp [hi, hx]
  first | refine CallZ.use0 (c_l00In _ _ _) rfl rfl ?_ | refine CallY.use (fun _ => ⟨rfl, c_l00In _ _ _⟩) rfl rfl ?_ | refine ⟨by intros; simp [*], CallY.use (fun _ => ⟨rfl, c_l00In _ _ _⟩) rfl rfl ?_⟩
  simp [hi, hx]
  first | refine CallZ.use0 (c_l00In _ _ _) rfl rfl ?_ | refine CallY.use (fun _ => ⟨rfl, c_l00In _ _ _⟩) rfl rfl ?_ | refine ⟨by intros; simp [*], CallY.use (fun _ => ⟨rfl, c_l00In _ _ _⟩) rfl rfl ?_⟩
  simp [hi, hx]
  first | refine CallZ.use0 (c_l00In _ _ _) rfl rfl ?_ | refine CallY.use (fun _ => ⟨rfl, c_l00In _ _ _⟩) rfl rfl ?_ | refine ⟨by intros; simp [*], CallY.use (fun _ => ⟨rfl, c_l00In _ _ _⟩) rfl rfl ?_⟩
  simp [hi, hx]
  first | refine CallZ.use0 (c_l00In _ _ _) rfl rfl ?_ | refine CallY.use (fun _ => ⟨rfl, c_l00In _ _ _⟩) rfl rfl ?_ | refine ⟨by intros; simp [*], CallY.use (fun _ => ⟨rfl, c_l00In _ _ _⟩) rfl rfl ?_⟩
  simp
  simp [placeOk, Bool.and_assoc]
theorem c_ValidChamber (x : Chamber) : HFn Tryz.prog 193 [.agg x.cells] [] (.bool (chamberOk x)) [] := by
  refine hfn_intro hm Tryz.func193 (by kernel_rfl) rfl (by kernel_rfl) rfl ret0_ok ?_
  simp [Chamber.cells]
  first | refine CallZ.use0 (c_within _ _ _) rfl rfl ?_ | refine CallY.use (fun _ => ⟨rfl, c_within _ _ _⟩) rfl rfl ?_ | refine ⟨by intros; simp [*], CallY.use (fun _ => ⟨rfl, c_within _ _ _⟩) rfl rfl ?_⟩
  simp
  first | refine CallZ.use0 (c_within _ _ _) rfl rfl ?_ | refine CallY.use (fun _ => ⟨rfl, c_within _ _ _⟩) rfl rfl ?_ | refine ⟨by intros; simp [*], CallY.use (fun _ => ⟨rfl, c_within _ _ _⟩) rfl rfl ?_⟩
  simp
  first | refine CallZ.use0 (c_within _ _ _) rfl rfl ?_ | refine CallY.use (fun _ => ⟨rfl, c_within _ _ _⟩) rfl rfl ?_ | refine ⟨by intros; simp [*], CallY.use (fun _ => ⟨rfl, c_within _ _ _⟩) rfl rfl ?_⟩
  simp
  simp [chamberOk, Bool.and_assoc]
theorem c_ValidTower (x : Tower) : HFn Tryz.prog 196 [.agg x.cells] [] (.bool (towerOk x)) [] := by
  refine hfn_intro hm Tryz.func196 (by kernel_rfl) rfl (by kernel_rfl) rfl ret0_ok ?_
  simp [Tower.cells]
  first | refine CallZ.use0 (c_impl_IsName _) rfl rfl ?_ | refine CallY.use (fun _ => ⟨rfl, c_impl_IsName _⟩) rfl rfl ?_ | refine ⟨by intros; simp [*], CallY.use (fun _ => ⟨rfl, c_impl_IsName _⟩) rfl rfl ?_⟩
  simp
  first | refine CallZ.use0 (c_within _ _ _) rfl rfl ?_ | refine CallY.use (fun _ => ⟨rfl, c_within _ _ _⟩) rfl rfl ?_ | refine ⟨by intros; simp [*], CallY.use (fun _ => ⟨rfl, c_within _ _ _⟩) rfl rfl ?_⟩
  simp
  first | refine CallZ.use0 (c_within _ _ _) rfl rfl ?_ | refine CallY.use (fun _ => ⟨rfl, c_within _ _ _⟩) rfl rfl ?_ | refine ⟨by intros; simp [*], CallY.use (fun _ => ⟨rfl, c_within _ _ _⟩) rfl rfl ?_⟩
  simp
  first | refine CallZ.use0 (c_within _ _ _) rfl rfl ?_ | refine CallY.use (fun _ => ⟨rfl, c_within _ _ _⟩) rfl rfl ?_ | refine ⟨by intros; simp [*], CallY.use (fun _ => ⟨rfl, c_within _ _ _⟩) rfl rfl ?_⟩
  simp
  first | refine CallZ.use0 (c_within _ _ _) rfl rfl ?_ | refine CallY.use (fun _ => ⟨rfl, c_within _ _ _⟩) rfl rfl ?_ | refine ⟨by intros; simp [*], CallY.use (fun _ => ⟨rfl, c_within _ _ _⟩) rfl rfl ?_⟩
  simp
  simp [towerOk, Bool.and_assoc]
end Go.Proofs.YtcjpfjklhhclmaaGreatDoor
-- from Fk
namespace Go.Proofs.YtcjpfjklhhclmaaGreatDoor
open Go Go.Ab
set_option maxRecDepth 100000

theorem c_IndexFuncMelt1 (f : Nat) (z : Nat) (rs : List (List PV)) (i0 o0 : Nat) (p : Melt → Bool) (l : List Melt) (hf : ∀ x ∈ l, HFn Tryz.prog f (.agg x.cells :: [.pe z rs i0 o0]) [] (.bool (p x)) []) (hs : l.length ≤ 9223372036854775807) :
    HFn Tryz.prog 306 [.sl 3 (Melt.rows l), .fn f [.pe z rs i0 o0]] [] (.int .i64 (findI p l)) [] := by
  refine hfn_intro hm Tryz.func306 (by kernel_rfl) rfl (by kernel_rfl) rfl ret0_ok ?_
  simp [Melt.rows_len]
  refine loop_upto hm l.length (fun i => ⟨[(0, .sl 3 (Melt.rows l)), (1, .fn f [.pe z rs i0 o0]), (7, .int .i64 l.length), (8, .int .i64 i)], []⟩) (fun i => ∀ j (h : j < l.length), j < i → p l[j] = false) (by kernel_rfl) ?_ (by simp) (fun i hi hI => ?_) (fun hI => ?_)
  · exact Wk.weak (ρ := []) (φ := []) (by simp)
  · have kf := hf l[i] (List.getElem_mem hi)
    simp only [Melt.cells] at kf
    simp [Melt.rows_len, Melt.row_get, Melt.cells, hi]
    refine CallZ.use0 kf rfl rfl ?_
    simp
    refine ⟨fun h => (findI_at hi h hI).symm, fun h => ⟨fun j hj hji => ?_, ?_⟩⟩
    · by_cases e : j = i
      · subst e; exact h
      · exact hI j hj (by omega)
    · refine Wk.weak (ρ := []) (φ := []) ?_
      simp
      exact w64 (by omega) (by omega)
  · simp [Melt.rows_len]
    exact (findI_none fun j hj => hI j hj hj).symm
theorem c_ContainsFuncMelt1 (f : Nat) (z : Nat) (rs : List (List PV)) (i0 o0 : Nat) (p : Melt → Bool) (l : List Melt) (hf : ∀ x ∈ l, HFn Tryz.prog f (.agg x.cells :: [.pe z rs i0 o0]) [] (.bool (p x)) []) (hs : l.length ≤ 9223372036854775807) :
    HFn Tryz.prog 265 [.sl 3 (Melt.rows l), .fn f [.pe z rs i0 o0]] [] (.bool (l.any p)) [] := by
  refine hfn_intro hm Tryz.func265 (by kernel_rfl) rfl (by kernel_rfl) rfl ret0_ok ?_
  simp
  refine CallZ.use0 (c_IndexFuncMelt1 f z rs i0 o0 p l hf hs) rfl rfl ?_
  simp
  exact findI_any

theorem c_IndexFuncBell1 (f : Nat) (z : Nat) (rs : List (List PV)) (i0 o0 : Nat) (p : Bell → Bool) (l : List Bell) (hf : ∀ x ∈ l, HFn Tryz.prog f (.agg x.cells :: [.pe z rs i0 o0]) [] (.bool (p x)) []) (hs : l.length ≤ 9223372036854775807) :
    HFn Tryz.prog 110 [.sl 5 (Bell.rows l), .fn f [.pe z rs i0 o0]] [] (.int .i64 (findI p l)) [] := by
  refine hfn_intro hm Tryz.func110 (by kernel_rfl) rfl (by kernel_rfl) rfl ret0_ok ?_
  simp [Bell.rows_len]
  refine loop_upto hm l.length (fun i => ⟨[(0, .sl 5 (Bell.rows l)), (1, .fn f [.pe z rs i0 o0]), (7, .int .i64 l.length), (8, .int .i64 i)], []⟩) (fun i => ∀ j (h : j < l.length), j < i → p l[j] = false) (by kernel_rfl) ?_ (by simp) (fun i hi hI => ?_) (fun hI => ?_)
  · exact Wk.weak (ρ := []) (φ := []) (by simp)
  · have kf := hf l[i] (List.getElem_mem hi)
    simp only [Bell.cells] at kf
    simp [Bell.rows_len, Bell.row_get, Bell.cells, hi]
    refine CallZ.use0 kf rfl rfl ?_
    simp
    refine ⟨fun h => (findI_at hi h hI).symm, fun h => ⟨fun j hj hji => ?_, ?_⟩⟩
    · by_cases e : j = i
      · subst e; exact h
      · exact hI j hj (by omega)
    · refine Wk.weak (ρ := []) (φ := []) ?_
      simp
      exact w64 (by omega) (by omega)
  · simp [Bell.rows_len]
    exact (findI_none fun j hj => hI j hj hj).symm
theorem c_ContainsFuncBell1 (f : Nat) (z : Nat) (rs : List (List PV)) (i0 o0 : Nat) (p : Bell → Bool) (l : List Bell) (hf : ∀ x ∈ l, HFn Tryz.prog f (.agg x.cells :: [.pe z rs i0 o0]) [] (.bool (p x)) []) (hs : l.length ≤ 9223372036854775807) :
    HFn Tryz.prog 123 [.sl 5 (Bell.rows l), .fn f [.pe z rs i0 o0]] [] (.bool (l.any p)) [] := by
  refine hfn_intro hm Tryz.func123 (by kernel_rfl) rfl (by kernel_rfl) rfl ret0_ok ?_
  simp
  refine CallZ.use0 (c_IndexFuncBell1 f z rs i0 o0 p l hf hs) rfl rfl ?_
  simp
  exact findI_any

theorem c_IndexFuncAction1 (f : Nat) (z : Nat) (rs : List (List PV)) (i0 o0 : Nat) (p : Action → Bool) (l : List Action) (hf : ∀ x ∈ l, HFn Tryz.prog f (.agg x.cells :: [.pe z rs i0 o0]) [] (.bool (p x)) []) (hs : l.length ≤ 9223372036854775807) :
    HFn Tryz.prog 210 [.sl 4 (Action.rows l), .fn f [.pe z rs i0 o0]] [] (.int .i64 (findI p l)) [] := by
  refine hfn_intro hm Tryz.func210 (by kernel_rfl) rfl (by kernel_rfl) rfl ret0_ok ?_
  simp [Action.rows_len]
  refine loop_upto hm l.length (fun i => ⟨[(0, .sl 4 (Action.rows l)), (1, .fn f [.pe z rs i0 o0]), (7, .int .i64 l.length), (8, .int .i64 i)], []⟩) (fun i => ∀ j (h : j < l.length), j < i → p l[j] = false) (by kernel_rfl) ?_ (by simp) (fun i hi hI => ?_) (fun hI => ?_)
  · exact Wk.weak (ρ := []) (φ := []) (by simp)
  · have kf := hf l[i] (List.getElem_mem hi)
    simp only [Action.cells] at kf
    simp [Action.rows_len, Action.row_get, Action.cells, hi]
    refine CallZ.use0 kf rfl rfl ?_
    simp
    refine ⟨fun h => (findI_at hi h hI).symm, fun h => ⟨fun j hj hji => ?_, ?_⟩⟩
    · by_cases e : j = i
      · subst e; exact h
      · exact hI j hj (by omega)
    · refine Wk.weak (ρ := []) (φ := []) ?_
      simp
      exact w64 (by omega) (by omega)
  · simp [Action.rows_len]
    exact (findI_none fun j hj => hI j hj hj).symm
theorem c_IndexFuncLever (f : Nat) (p : Lever → Bool) (l : List Lever) (hf : ∀ x ∈ l, HFn Tryz.prog f (.agg x.cells :: []) [] (.bool (p x)) []) (hs : l.length ≤ 9223372036854775807) :
    HFn Tryz.prog 342 [.sl 2 (Lever.rows l), .fn f []] [] (.int .i64 (findI p l)) [] := by
  refine hfn_intro hm Tryz.func342 (by kernel_rfl) rfl (by kernel_rfl) rfl ret0_ok ?_
  simp [Lever.rows_len]
  refine loop_upto hm l.length (fun i => ⟨[(0, .sl 2 (Lever.rows l)), (1, .fn f []), (7, .int .i64 l.length), (8, .int .i64 i)], []⟩) (fun i => ∀ j (h : j < l.length), j < i → p l[j] = false) (by kernel_rfl) ?_ (by simp) (fun i hi hI => ?_) (fun hI => ?_)
  · exact Wk.weak (ρ := []) (φ := []) (by simp)
  · have kf := hf l[i] (List.getElem_mem hi)
    simp only [Lever.cells] at kf
    simp [Lever.rows, Lever.cells, hi]
    refine CallZ.use0 kf rfl rfl ?_
    simp
    refine ⟨fun h => (findI_at hi h hI).symm, fun h => ⟨fun j hj hji => ?_, ?_⟩⟩
    · by_cases e : j = i
      · subst e; exact h
      · exact hI j hj (by omega)
    · refine Wk.weak (ρ := []) (φ := []) ?_
      simp
      exact w64 (by omega) (by omega)
  · simp [Lever.rows_len]
    exact (findI_none fun j hj => hI j hj hj).symm
theorem c_ContainsFuncLever (f : Nat) (p : Lever → Bool) (l : List Lever) (hf : ∀ x ∈ l, HFn Tryz.prog f (.agg x.cells :: []) [] (.bool (p x)) []) (hs : l.length ≤ 9223372036854775807) :
    HFn Tryz.prog 313 [.sl 2 (Lever.rows l), .fn f []] [] (.bool (l.any p)) [] := by
  refine hfn_intro hm Tryz.func313 (by kernel_rfl) rfl (by kernel_rfl) rfl ret0_ok ?_
  simp
  refine CallZ.use0 (c_IndexFuncLever f p l hf hs) rfl rfl ?_
  simp
  exact findI_any

theorem c_IndexFuncPlace1 (f : Nat) (z : Nat) (rs : List (List PV)) (i0 o0 : Nat) (p : Place → Bool) (l : List Place) (hf : ∀ x ∈ l, HFn Tryz.prog f (.agg x.cells :: [.pe z rs i0 o0]) [] (.bool (p x)) []) (hs : l.length ≤ 9223372036854775807) :
    HFn Tryz.prog 203 [.sl 5 (Place.rows l), .fn f [.pe z rs i0 o0]] [] (.int .i64 (findI p l)) [] := by
  refine hfn_intro hm Tryz.func203 (by kernel_rfl) rfl (by kernel_rfl) rfl ret0_ok ?_
  simp [Place.rows_len]
  refine loop_upto hm l.length (fun i => ⟨[(0, .sl 5 (Place.rows l)), (1, .fn f [.pe z rs i0 o0]), (7, .int .i64 l.length), (8, .int .i64 i)], []⟩) (fun i => ∀ j (h : j < l.length), j < i → p l[j] = false) (by kernel_rfl) ?_ (by simp) (fun i hi hI => ?_) (fun hI => ?_)
  · exact Wk.weak (ρ := []) (φ := []) (by simp)
  · have kf := hf l[i] (List.getElem_mem hi)
    simp only [Place.cells] at kf
    simp [Place.rows, Place.cells, hi]
    refine CallZ.use0 kf rfl rfl ?_
    simp
    refine ⟨fun h => (findI_at hi h hI).symm, fun h => ⟨fun j hj hji => ?_, ?_⟩⟩
    · by_cases e : j = i
      · subst e; exact h
      · exact hI j hj (by omega)
    · refine Wk.weak (ρ := []) (φ := []) ?_
      simp
      exact w64 (by omega) (by omega)
  · simp [Place.rows_len]
    exact (findI_none fun j hj => hI j hj hj).symm
theorem c_ContainsFuncPlace1 (f : Nat) (z : Nat) (rs : List (List PV)) (i0 o0 : Nat) (p : Place → Bool) (l : List Place) (hf : ∀ x ∈ l, HFn Tryz.prog f (.agg x.cells :: [.pe z rs i0 o0]) [] (.bool (p x)) []) (hs : l.length ≤ 9223372036854775807) :
    HFn Tryz.prog 112 [.sl 5 (Place.rows l), .fn f [.pe z rs i0 o0]] [] (.bool (l.any p)) [] := by
  refine hfn_intro hm Tryz.func112 (by kernel_rfl) rfl (by kernel_rfl) rfl ret0_ok ?_
  simp
  refine CallZ.use0 (c_IndexFuncPlace1 f z rs i0 o0 p l hf hs) rfl rfl ?_
  simp
  exact findI_any

theorem c_IndexFuncStr1 (f : Nat) (z : Nat) (rs : List (List PV)) (i0 o0 : Nat) (p : (List UInt8) → Bool) (l : List (List UInt8)) (hf : ∀ x ∈ l, HFn Tryz.prog f (.str x :: [.pe z rs i0 o0]) [] (.bool (p x)) []) (hs : l.length ≤ 9223372036854775807) :
    HFn Tryz.prog 340 [.sl 1 (strRows l), .fn f [.pe z rs i0 o0]] [] (.int .i64 (findI p l)) [] := by
  refine hfn_intro hm Tryz.func340 (by kernel_rfl) rfl (by kernel_rfl) rfl ret0_ok ?_
  simp [strRows_len]
  refine loop_upto hm l.length (fun i => ⟨[(0, .sl 1 (strRows l)), (1, .fn f [.pe z rs i0 o0]), (7, .int .i64 l.length), (8, .int .i64 i)], []⟩) (fun i => ∀ j (h : j < l.length), j < i → p l[j] = false) (by kernel_rfl) ?_ (by simp) (fun i hi hI => ?_) (fun hI => ?_)
  · exact Wk.weak (ρ := []) (φ := []) (by simp)
  · have kf := hf l[i] (List.getElem_mem hi)
    skip
    simp [strRows_len, strRows_get, hi]
    refine CallZ.use0 kf rfl rfl ?_
    simp
    refine ⟨fun h => (findI_at hi h hI).symm, fun h => ⟨fun j hj hji => ?_, ?_⟩⟩
    · by_cases e : j = i
      · subst e; exact h
      · exact hI j hj (by omega)
    · refine Wk.weak (ρ := []) (φ := []) ?_
      simp
      exact w64 (by omega) (by omega)
  · simp [strRows_len]
    exact (findI_none fun j hj => hI j hj hj).symm
theorem c_ContainsFuncStr1 (f : Nat) (z : Nat) (rs : List (List PV)) (i0 o0 : Nat) (p : (List UInt8) → Bool) (l : List (List UInt8)) (hf : ∀ x ∈ l, HFn Tryz.prog f (.str x :: [.pe z rs i0 o0]) [] (.bool (p x)) []) (hs : l.length ≤ 9223372036854775807) :
    HFn Tryz.prog 307 [.sl 1 (strRows l), .fn f [.pe z rs i0 o0]] [] (.bool (l.any p)) [] := by
  refine hfn_intro hm Tryz.func307 (by kernel_rfl) rfl (by kernel_rfl) rfl ret0_ok ?_
  simp
  refine CallZ.use0 (c_IndexFuncStr1 f z rs i0 o0 p l hf hs) rfl rfl ?_
  simp
  exact findI_any

theorem c_IndexStr (l : List (List UInt8)) (v : List UInt8) (hl : l.length ≤ 9223372036854775807) : HFn Tryz.prog 341 [.sl 1 (strRows l), .str v] [] (.int .i64 (findI (fun x => decide (v = x)) l)) [] := by
  refine hfn_intro hm Tryz.func341 (by kernel_rfl) rfl (by kernel_rfl) rfl ret0_ok ?_
  simp [strRows_len]
  refine loop_upto hm l.length (fun i => ⟨[(0, .sl 1 (strRows l)), (1, .str v), (7, .int .i64 l.length), (8, .int .i64 i)], []⟩) (fun i => ∀ j (h : j < l.length), j < i → decide (v = l[j]) = false) (by kernel_rfl) ?_ (by simp) (fun i hi hI => ?_) (fun hI => ?_)
  · exact Wk.weak (ρ := []) (φ := []) (by simp)
  · simp [strRows_len, strRows_get, hi]
    refine ⟨fun h => (findI_at hi (by simpa using h) hI).symm, fun h => ⟨fun j hj hji => ?_, ?_⟩⟩
    · by_cases e : j = i
      · subst e; exact h
      · simpa using hI j hj (by omega)
    · refine Wk.weak (ρ := []) (φ := []) ?_
      simp
      exact w64 (by omega) (by omega)
  · simp [strRows_len]
    exact (findI_none fun j hj => hI j hj hj).symm
theorem c_ContainsStr (l : List (List UInt8)) (v : List UInt8) (hl : l.length ≤ 9223372036854775807) : HFn Tryz.prog 309 [.sl 1 (strRows l), .str v] [] (.bool (l.any fun x => decide (v = x))) [] := by
  refine hfn_intro hm Tryz.func309 (by kernel_rfl) rfl (by kernel_rfl) rfl ret0_ok ?_
  simp
  refine CallZ.use0 (c_IndexStr l v hl) rfl rfl ?_
  simp
  exact findI_any

end Go.Proofs.YtcjpfjklhhclmaaGreatDoor
-- from Fi
namespace Go.Proofs.YtcjpfjklhhclmaaGreatDoor
open Go Go.Ab
set_option maxRecDepth 100000

def shareOk (x : Share) : Bool := isName x.melt && (decide (1 ≤ x.mass) && decide (x.mass ≤ 20000000))
def ltShare (a b : Share) : Bool := Op.bytesLess a.melt b.melt
/-- The sum of the masses of the first shares. -/
def massS (l : List Share) (i : Nat) : Int := (l.take i).foldl (fun s x => IntKind.i64.wrap (s + x.mass)) 0
theorem massS_succ (l : List Share) {i : Nat} (hi : i < l.length) : massS l (i + 1) = IntKind.i64.wrap (massS l i + l[i].mass) := by
  unfold massS
  rw [← List.take_append_getElem hi, List.foldl_append]
  rfl
def bellOk (x : Bell) : Bool := upOk shareOk ltShare x.shares && (isName x.id && (decide (0 ≤ x.note) && decide (x.note ≤ 127)) && (decide (1 ≤ x.mass) && decide (x.mass ≤ 20000000)) && (decide (0 ≤ x.feed) && decide (x.feed ≤ 20000000)) && decide (1 ≤ (x.shares.length : Int)) && decide ((x.shares.length : Int) ≤ 4) && decide (massS x.shares x.shares.length = IntKind.i64.wrap (x.mass + x.feed)))
def loadOk (b : Beam) (x : Load) : Bool := (decide (0 ≤ x.k_at) && decide (x.k_at ≤ b.span)) && (decide (1 ≤ x.weight) && decide (x.weight ≤ 200000))
def ltLoad (a b : Load) : Bool := decide (a.k_at ≤ b.k_at)
def beamOk (x : Beam) : Bool := upOk (loadOk x) ltLoad x.loads && (isName x.name && (decide (1 ≤ x.span) && decide (x.span ≤ 6000)) && (decide (20 ≤ x.width) && decide (x.width ≤ 1000)) && (decide (20 ≤ x.depth) && decide (x.depth ≤ 1000)) && (decide (1000 ≤ x.wood) && decide (x.wood ≤ 20000)) && decide ((x.loads.length : Int) ≤ 8))
def leverBad (x : Lever) : Bool := !(decide (1 ≤ x.k_in) && decide (x.k_in ≤ 100000)) || !(decide (1 ≤ x.k_out) && decide (x.k_out ≤ 100000))
def actionOk (x : Action) : Bool := (decide (0 ≤ x.note) && decide (x.note ≤ 127)) && decide ((x.levers.length : Int) ≤ 6) && !x.levers.any leverBad && (decide (0 ≤ x.slack) && decide (x.slack ≤ 10000)) && (decide (0 ≤ x.weight) && decide (x.weight ≤ 1000000))
def namesOk (l : List (List UInt8)) : Bool := upOk isName Op.bytesLess l
def meltOk (x : Melt) : Bool := isName x.id && decide (1 ≤ (x.ingots.length : Int)) && decide ((x.ingots.length : Int) ≤ 16) && namesOk x.ingots && (decide (1 ≤ x.mass) && decide (x.mass ≤ 320000000))

set_option maxHeartbeats 1000000 in
theorem c_ValidBell (x : Bell) (hl : x.shares.length ≤ 1048576) : HFn Tryz.prog 268 [.agg x.cells] [] (.bool (bellOk x)) [] := by
  refine hfn_intro hm Tryz.func268 (by kernel_rfl) rfl (by kernel_rfl) rfl ret0_ok ?_
  simp [Bell.cells, Share.rows_len]
  refine loop_upto hm x.shares.length (fun i => ⟨[(1, .pb 0 0), (3, .int .i64 (massS x.shares i)), (7, .sl 2 (Share.rows x.shares)), (8, .int .i64 x.shares.length), (9, .int .i64 i)], [some (.box [.str x.id, .int .i64 x.note, .int .i64 x.mass, .int .i64 x.feed, .sl 2 (Share.rows x.shares)])]⟩) (fun i => ∀ j, j < i → upAt shareOk ltShare x.shares j = true) (by kernel_rfl) ?_ (by simp) (fun i hi hI => ?_) (fun hI => ?_)
  · exact Wk.weak (ρ := [0]) (φ := []) (by simp [massS])
  · have e1 : IntKind.i64.wrap ((i : Int) - 1) = i - 1 := w64 (by omega) (by omega)
    obtain ⟨y, hy⟩ : ∃ y, x.shares[i - 1]? = some y := ⟨_, List.getElem?_eq_getElem (by omega)⟩
    have hx := List.getElem?_eq_getElem hi
    have ho := upAt_eq shareOk ltShare hx hy
    have hs := bytesLess_swap y.melt x.shares[i].melt
    rw [massS_succ _ hi]
    simp [Share.rows, Share.cells, hi]
    refine CallZ.use0 (c_impl_IsName _) rfl rfl ?_
    simp
    refine CallY.use (fun _ => ⟨rfl, c_isMass _⟩) rfl rfl ?_
    simp [Share.cells, hy, e1]
    repeat refine ⟨by grind, ?_⟩
    refine ⟨fun h => ?_, fun h1 h2 h3 h4 => ⟨upto_succ hI ?_, ?_⟩⟩
    · have : upAt shareOk ltShare x.shares i = false := by
        rw [ho, shareOk, ltShare]
        grind
      simp only [bellOk, upOk, all_range_false hi this, Bool.false_and]
    · rw [ho, shareOk, ltShare]
      grind
    · refine Wk.weak (ρ := [0]) (φ := []) ?_
      simp
      exact w64 (by omega) (by omega)
  · simp [Share.rows]
    refine CallZ.use0 (c_impl_IsName _) rfl rfl ?_
    simp
    refine CallY.use (fun _ => ⟨rfl, c_within _ _ _⟩) rfl rfl ?_
    simp
    repeat refine ⟨by grind, ?_⟩
    refine CallY.use (fun _ => ⟨rfl, c_isMass _⟩) rfl rfl ?_
    simp
    repeat refine ⟨by grind, ?_⟩
    refine CallY.use (fun _ => ⟨rfl, c_within _ _ _⟩) rfl rfl ?_
    simp
    repeat refine ⟨by grind, ?_⟩
    simp only [bellOk, upOk, all_range_true hI, Bool.true_and]

set_option maxHeartbeats 1000000 in
theorem c_l18One (x : Bell) (rows : List (List PV)) (i0 : Nat) (hr : rows[i0]? = some x.cells) (hl : x.shares.length ≤ 1048576) : HFn Tryz.prog 188 [.pe 5 rows i0 0] [] (.bool (bellOk x)) [] := by
  have hi0 : i0 < rows.length := (List.getElem?_eq_some_iff.1 hr).1
  have hx0 : rows[i0] = x.cells := (List.getElem?_eq_some_iff.1 hr).2
  rw [Bell.cells] at hr hx0
  refine hfn_intro hm Tryz.func188 (by kernel_rfl) rfl (by kernel_rfl) rfl ret0_ok ?_
  simp [hi0, hx0]
  refine CallZ.use0 (c_spec_l01Name _) rfl rfl ?_
  simp [hi0, hx0]
  iterate 3
    repeat refine ⟨by grind, ?_⟩
    refine CallY.use (fun _ => ⟨rfl, c_l00In _ _ _⟩) rfl rfl ?_
    simp [hi0, hx0, Share.rows_len]
  repeat refine ⟨by grind, ?_⟩
  refine ⟨fun h => ?_, ?_⟩
  · rw [bellOk]
    grind
  intros
  refine loop_upto hm x.shares.length (fun i => ⟨[(0, .pe 5 rows i0 0), (3, .int .i64 (massS x.shares i)), (4, .int .i64 i)], []⟩) (fun i => ∀ j, j < i → upAt shareOk ltShare x.shares j = true) (by kernel_rfl) ?_ (by simp) (fun i hi hI => ?_) (fun hI => ?_)
  · exact Wk.weak (ρ := []) (φ := []) (by simp [massS])
  · have e1 : IntKind.i64.wrap ((i : Int) - 1) = i - 1 := w64 (by omega) (by omega)
    obtain ⟨y, hy⟩ : ∃ y, x.shares[i - 1]? = some y := ⟨_, List.getElem?_eq_getElem (by omega)⟩
    have hx := List.getElem?_eq_getElem hi
    have ho := upAt_eq shareOk ltShare hx hy
    rw [massS_succ _ hi]
    simp [hi0, hx0, Share.rows, Share.cells, hi]
    refine CallZ.use0 (c_spec_l01Name _) rfl rfl ?_
    simp [hi0, hx0, Share.rows, Share.cells, hi]
    repeat refine ⟨by grind, ?_⟩
    refine CallY.use (fun _ => ⟨rfl, c_l00In _ _ _⟩) rfl rfl ?_
    simp [hi0, hx0, Share.rows, Share.cells, hi, hy, e1]
    repeat refine ⟨by grind, ?_⟩
    refine ⟨fun h => ?_, fun h1 h2 h3 h4 => ⟨upto_succ hI ?_, ?_⟩⟩
    · have : upAt shareOk ltShare x.shares i = false := by
        rw [ho, shareOk, ltShare]
        grind
      simp only [bellOk, upOk, all_range_false hi this, Bool.false_and]
    · rw [ho, shareOk, ltShare]
      grind
    · refine Wk.weak (ρ := []) (φ := []) ?_
      simp
      exact w64 (by omega) (by omega)
  · simp [hi0, hx0, Share.rows]
    simp only [bellOk, upOk, all_range_true hI, Bool.true_and]
    grind

theorem c_isLoad (b : Beam) (x : Load) : HFn Tryz.prog 311 [.agg b.cells, .agg x.cells] [] (.bool (loadOk b x)) [] := by
  refine hfn_intro hm Tryz.func311 (by kernel_rfl) rfl (by kernel_rfl) rfl ret0_ok ?_
  simp [Beam.cells, Load.cells]
  refine CallZ.use0 (c_within _ _ _) rfl rfl ?_
  simp
  repeat refine ⟨by grind, ?_⟩
  refine CallY.use (fun _ => ⟨rfl, c_within _ _ _⟩) rfl rfl ?_
  simp [loadOk]
theorem c_l21Load (b : Beam) (x : Load) (rows rows' : List (List PV)) (i j : Nat) (hr : rows[i]? = some b.cells) (hr' : rows'[j]? = some x.cells) : HFn Tryz.prog 140 [.pe 6 rows i 0, .pe 2 rows' j 0] [] (.bool (loadOk b x)) [] := by
  have hi : i < rows.length := (List.getElem?_eq_some_iff.1 hr).1
  have hx : rows[i] = b.cells := (List.getElem?_eq_some_iff.1 hr).2
  have hj : j < rows'.length := (List.getElem?_eq_some_iff.1 hr').1
  have hy : rows'[j] = x.cells := (List.getElem?_eq_some_iff.1 hr').2
  rw [Beam.cells] at hr hx
  rw [Load.cells] at hr' hy
  refine hfn_intro hm Tryz.func140 (by kernel_rfl) rfl (by kernel_rfl) rfl ret0_ok ?_
  simp [hi, hx, hj, hy]
  refine CallZ.use0 (c_l00In _ _ _) rfl rfl ?_
  simp [hj, hy]
  repeat refine ⟨by grind, ?_⟩
  refine CallY.use (fun _ => ⟨rfl, c_l00In _ _ _⟩) rfl rfl ?_
  simp [loadOk]

set_option maxHeartbeats 1000000 in
theorem c_ValidBeam (x : Beam) (hl : x.loads.length ≤ 1048576) : HFn Tryz.prog 270 [.agg x.cells] [] (.bool (beamOk x)) [] := by
  refine hfn_intro hm Tryz.func270 (by kernel_rfl) rfl (by kernel_rfl) rfl ret0_ok ?_
  simp [Beam.cells, Load.rows_len]
  refine loop_upto hm x.loads.length (fun i => ⟨[(1, .pb 0 0), (6, .sl 2 (Load.rows x.loads)), (7, .int .i64 x.loads.length), (8, .int .i64 i)], [some (.box [.str x.name, .int .i64 x.span, .int .i64 x.width, .int .i64 x.depth, .int .i64 x.wood, .sl 2 (Load.rows x.loads)])]⟩) (fun i => ∀ j, j < i → upAt (loadOk x) ltLoad x.loads j = true) (by kernel_rfl) ?_ (by simp) (fun i hi hI => ?_) (fun hI => ?_)
  · exact Wk.weak (ρ := [0]) (φ := []) (by simp)
  · have e1 : IntKind.i64.wrap ((i : Int) - 1) = i - 1 := w64 (by omega) (by omega)
    obtain ⟨y, hy⟩ : ∃ y, x.loads[i - 1]? = some y := ⟨_, List.getElem?_eq_getElem (by omega)⟩
    have hx := List.getElem?_eq_getElem hi
    have ho := upAt_eq (loadOk x) ltLoad hx hy
    have kl := c_isLoad x x.loads[i]
    simp only [Beam.cells, Load.cells] at kl
    simp [Load.rows, Load.cells, hi]
    refine CallZ.use0 kl rfl rfl ?_
    simp [Load.cells, hy, e1]
    repeat refine ⟨by grind, ?_⟩
    refine ⟨fun h => ?_, fun h1 h2 => ⟨upto_succ hI ?_, ?_⟩⟩
    · have : upAt (loadOk x) ltLoad x.loads i = false := by
        rw [ho, ltLoad]
        grind
      simp only [beamOk, upOk, all_range_false hi this, Bool.false_and]
    · rw [ho, ltLoad]
      grind
    · refine Wk.weak (ρ := [0]) (φ := []) ?_
      simp
      exact w64 (by omega) (by omega)
  · simp [Load.rows]
    refine CallZ.use0 (c_impl_IsName _) rfl rfl ?_
    simp
    refine CallY.use (fun _ => ⟨rfl, c_within _ _ _⟩) rfl rfl ?_
    simp
    iterate 2
      repeat refine ⟨by grind, ?_⟩
      refine CallY.use (fun _ => ⟨rfl, c_isSide _⟩) rfl rfl ?_
      simp
    repeat refine ⟨by grind, ?_⟩
    refine CallY.use (fun _ => ⟨rfl, c_within _ _ _⟩) rfl rfl ?_
    simp
    repeat refine ⟨by grind, ?_⟩
    simp only [beamOk, upOk, all_range_true hI, Bool.true_and]

set_option maxHeartbeats 1000000 in
theorem c_l21Ok (x : Beam) (rows : List (List PV)) (i0 : Nat) (hr : rows[i0]? = some x.cells) (hl : x.loads.length ≤ 1048576) : HFn Tryz.prog 50 [.pe 6 rows i0 0] [] (.bool (beamOk x)) [] := by
  have hi0 : i0 < rows.length := (List.getElem?_eq_some_iff.1 hr).1
  have hx0 : rows[i0] = x.cells := (List.getElem?_eq_some_iff.1 hr).2
  have hr0 := hr
  rw [Beam.cells] at hr hx0
  refine hfn_intro hm Tryz.func50 (by kernel_rfl) rfl (by kernel_rfl) rfl ret0_ok ?_
  simp [hi0, hx0]
  refine CallZ.use0 (c_spec_l01Name _) rfl rfl ?_
  simp [hi0, hx0]
  iterate 4
    repeat refine ⟨by grind, ?_⟩
    refine CallY.use (fun _ => ⟨rfl, c_l00In _ _ _⟩) rfl rfl ?_
    simp [hi0, hx0]
  repeat refine ⟨by grind, ?_⟩
  refine ⟨fun h => ?_, ?_⟩
  · rw [beamOk]
    grind
  intros
  refine loop_upto hm x.loads.length (fun i => ⟨[(0, .pe 6 rows i0 0), (3, .int .i64 i)], []⟩) (fun i => ∀ j, j < i → upAt (loadOk x) ltLoad x.loads j = true) (by kernel_rfl) ?_ (by simp) (fun i hi hI => ?_) (fun hI => ?_)
  · exact Wk.weak (ρ := []) (φ := []) (by simp)
  · have e1 : IntKind.i64.wrap ((i : Int) - 1) = i - 1 := w64 (by omega) (by omega)
    obtain ⟨y, hy⟩ : ∃ y, x.loads[i - 1]? = some y := ⟨_, List.getElem?_eq_getElem (by omega)⟩
    have hx := List.getElem?_eq_getElem hi
    have ho := upAt_eq (loadOk x) ltLoad hx hy
    have kl := c_l21Load x x.loads[i] rows (List.map Load.cells x.loads) i0 i hr0 (by simp [hi])
    simp [hi0, hx0, Load.rows, hi]
    refine CallZ.use0 kl rfl rfl ?_
    simp [hi0, hx0, Load.rows, Load.cells, hi, hy, e1]
    repeat refine ⟨by grind, ?_⟩
    refine ⟨fun h => ?_, fun h1 h2 => ⟨upto_succ hI ?_, ?_⟩⟩
    · have : upAt (loadOk x) ltLoad x.loads i = false := by
        rw [ho, ltLoad]
        grind
      simp only [beamOk, upOk, all_range_false hi this, Bool.false_and]
    · rw [ho, ltLoad]
      grind
    · refine Wk.weak (ρ := []) (φ := []) ?_
      simp
      exact w64 (by omega) (by omega)
  · simp [hi0, hx0, Load.rows]
    simp only [beamOk, upOk, all_range_true hI, Bool.true_and]
    grind

theorem c_leverBad (x : Lever) : HFn Tryz.prog 314 [.agg x.cells] [] (.bool (leverBad x)) [] := by
  refine hfn_intro hm Tryz.func314 (by kernel_rfl) rfl (by kernel_rfl) rfl ret0_ok ?_
  simp [Lever.cells]
  refine CallZ.use0 (c_isArm _) rfl rfl ?_
  simp
  repeat refine ⟨by grind, ?_⟩
  refine CallY.use (fun _ => ⟨rfl, c_isArm _⟩) rfl rfl ?_
  simp [leverBad]
  try exact fun a b => ⟨a, b⟩
theorem c_ValidAction (x : Action) (hl : x.levers.length ≤ 1048576) : HFn Tryz.prog 271 [.agg x.cells] [] (.bool (actionOk x)) [] := by
  refine hfn_intro hm Tryz.func271 (by kernel_rfl) rfl (by kernel_rfl) rfl ret0_ok ?_
  simp [Action.cells]
  refine CallZ.use0 (c_within _ _ _) rfl rfl ?_
  simp [Lever.rows_len]
  repeat refine ⟨by grind, ?_⟩
  refine CallY.use (fun _ => ⟨rfl, c_ContainsFuncLever _ leverBad x.levers (fun y _ => c_leverBad y) (by omega)⟩) rfl rfl ?_
  simp
  repeat refine ⟨by grind, ?_⟩
  refine CallY.use (fun _ => ⟨rfl, c_isSlack _⟩) rfl rfl ?_
  simp
  repeat refine ⟨by grind, ?_⟩
  refine CallY.use (fun _ => ⟨rfl, c_within _ _ _⟩) rfl rfl ?_
  simp
  repeat refine ⟨by grind, ?_⟩
  simp [actionOk]
theorem c_l24One (x : Action) (rows : List (List PV)) (i0 : Nat) (hr : rows[i0]? = some x.cells) (hl : x.levers.length ≤ 1048576) : HFn Tryz.prog 145 [.pe 4 rows i0 0] [] (.bool (actionOk x)) [] := by
  have hi0 : i0 < rows.length := (List.getElem?_eq_some_iff.1 hr).1
  have hx0 : rows[i0] = x.cells := (List.getElem?_eq_some_iff.1 hr).2
  rw [Action.cells] at hr hx0
  refine hfn_intro hm Tryz.func145 (by kernel_rfl) rfl (by kernel_rfl) rfl ret0_ok ?_
  simp [hi0, hx0]
  refine CallZ.use0 (c_l00In _ _ _) rfl rfl ?_
  simp [hi0, hx0, Lever.rows_len]
  repeat refine ⟨by grind, ?_⟩
  iterate 2
    refine CallY.use (fun _ => ⟨rfl, c_l00In _ _ _⟩) rfl rfl ?_
    simp [hi0, hx0]
    repeat refine ⟨by grind, ?_⟩
  refine ⟨fun h => ?_, ?_⟩
  · rw [actionOk]
    grind
  intro a1 a2 a3 a4 a5 a6 a7
  refine loop_upto hm x.levers.length (fun i => ⟨[(0, .pe 4 rows i0 0), (3, .int .i64 i)], []⟩) (fun i => ∀ j (hj : j < x.levers.length), j < i → leverBad x.levers[j] = false) (by kernel_rfl) ?_ (by simp) (fun i hi hI => ?_) (fun hI => ?_)
  · exact Wk.weak (ρ := []) (φ := []) (by simp)
  · simp [hi0, hx0, Lever.rows, Lever.cells, hi]
    refine CallZ.use0 (c_l00In _ _ _) rfl rfl ?_
    simp [hi0, hx0, Lever.rows, Lever.cells, hi]
    repeat refine ⟨by grind, ?_⟩
    refine CallY.use (fun _ => ⟨rfl, c_l00In _ _ _⟩) rfl rfl ?_
    simp
    repeat refine ⟨by grind, ?_⟩
    refine ⟨fun h => ?_, fun h1 h2 h3 h4 => ⟨fun j hj hji => ?_, ?_⟩⟩
    · have hb : leverBad x.levers[i] = true := by
        rw [leverBad]
        grind
      have : x.levers.any leverBad = true := List.any_eq_true.2 ⟨_, List.getElem_mem hi, hb⟩
      simp [actionOk, this]
    · by_cases e : j = i
      · subst e
        simp [leverBad, h1, h2, h3, h4]
      · exact hI j hj (by omega)
    · refine Wk.weak (ρ := []) (φ := []) ?_
      simp
      exact w64 (by omega) (by omega)
  · simp [hi0, hx0, Lever.rows]
    have : x.levers.any leverBad = false := by
      rw [List.any_eq_false]
      intro y hy
      obtain ⟨j, hj, rfl⟩ := List.getElem_of_mem hy
      simp [hI j hj hj]
    simp [actionOk, this, a1, a2, a3, a4, a5, a6, a7]
end Go.Proofs.YtcjpfjklhhclmaaGreatDoor
-- from Fj
namespace Go.Proofs.YtcjpfjklhhclmaaGreatDoor
open Go Go.Ab
set_option maxRecDepth 100000

def ltIngot (a b : Ingot) : Bool := Op.bytesLess a.id b.id
def ltMelt (a b : Melt) : Bool := Op.bytesLess a.id b.id
def ltBell (a b : Bell) : Bool := Op.bytesLess a.id b.id
def ltPlace (a b : Place) : Bool := Op.bytesLess a.bell b.bell
def ltBeam (a b : Beam) : Bool := Op.bytesLess a.name b.name
def ltAction (a b : Action) : Bool := decide (a.note < b.note)
def ingotsOk (l : List Ingot) : Bool := upOk ingotOk ltIngot l && decide ((l.length : Int) ≤ 16)
def bellsOk (l : List Bell) : Bool := upOk bellOk ltBell l && decide ((l.length : Int) ≤ 24)
def placesOk (l : List Place) : Bool := upOk placeOk ltPlace l && decide ((l.length : Int) ≤ 24)
def frameOk (l : List Beam) : Bool := upOk beamOk ltBeam l && decide ((l.length : Int) ≤ 24)
def clavierOk (l : List Action) : Bool := upOk actionOk ltAction l && decide ((l.length : Int) ≤ 48)

set_option maxHeartbeats 1000000 in
theorem c_impl_ValidIngots (l : List Ingot) (hl : l.length ≤ 1048576) : HFn Tryz.prog 190 [.sl 5 (Ingot.rows l)] [] (.bool (ingotsOk l)) [] := by
  refine hfn_intro hm Tryz.func190 (by kernel_rfl) rfl (by kernel_rfl) rfl ret0_ok ?_
  simp [Ingot.rows]
  refine loop_upto hm l.length (fun i => ⟨[(0, .sl 5 (Ingot.rows l)), (5, .sl 5 (Ingot.rows l)), (6, .int .i64 l.length), (7, .int .i64 i)], []⟩) (fun i => ∀ j, j < i → upAt ingotOk ltIngot l j = true) (by kernel_rfl) ?_ (by simp) (fun i hi hI => ?_) (fun hI => ?_)
  · exact Wk.weak (ρ := []) (φ := []) (by simp [Ingot.rows])
  · have e1 : IntKind.i64.wrap ((i : Int) - 1) = i - 1 := w64 (by omega) (by omega)
    obtain ⟨y, hy⟩ : ∃ y, l[i - 1]? = some y := ⟨_, List.getElem?_eq_getElem (by omega)⟩
    have hx := List.getElem?_eq_getElem hi
    have kv := c_validIngot l[i]
    simp only [Ingot.cells] at kv
    simp [Ingot.rows, Ingot.cells, hi]
    refine CallZ.use0 kv rfl rfl ?_
    simp [Ingot.cells, hy, e1]
    have ho := upAt_eq ingotOk ltIngot hx hy
    have hs := bytesLess_swap y.id l[i].id
    iterate 6 refine ⟨by grind, ?_⟩
    refine ⟨fun h => ?_, fun h1 h2 => ⟨upto_succ hI ?_, ?_⟩⟩
    · have : upAt ingotOk ltIngot l i = false := by
        rw [ho, ltIngot]
        rcases h with h | ⟨h, h'⟩
        · simp [h]
        · have h3 : (Op.bytesLess l[i].id y.id || decide (l[i].id = y.id)) = true := by simpa using h'
          rw [hs] at h3
          have h4 : ¬ i = 0 := by omega
          simp at h3
          simp [h3, h4]
      simp only [ingotsOk, upOk, all_range_false hi this, Bool.false_and]
    · rw [ho, ltIngot]
      rw [h1, Bool.true_and]
      by_cases h4 : i = 0
      · simp [h4]
      · obtain ⟨h5, h6⟩ := h2 (by omega)
        simp [h5, h6] at hs
        simp [hs]
    · refine Wk.weak (ρ := []) (φ := []) ?_
      simp
      exact w64 (by omega) (by omega)
  · simp [Ingot.rows]
    simp only [ingotsOk, upOk, all_range_true hI, Bool.true_and]
set_option maxHeartbeats 1000000 in
theorem c_l13Ok (l : List Ingot) (hl : l.length ≤ 1048576) : HFn Tryz.prog 101 [.sl 5 (Ingot.rows l)] [] (.bool (ingotsOk l)) [] := by
  refine hfn_intro hm Tryz.func101 (by kernel_rfl) rfl (by kernel_rfl) rfl ret0_ok ?_
  simp [Ingot.rows]
  refine loop_upto hm l.length (fun i => ⟨[(0, .sl 5 (Ingot.rows l)), (3, .int .i64 i)], []⟩) (fun i => ∀ j, j < i → upAt ingotOk ltIngot l j = true) (by kernel_rfl) ?_ (by simp) (fun i hi hI => ?_) (fun hI => ?_)
  · exact Wk.weak (ρ := []) (φ := []) (by simp [Ingot.rows])
  · have e1 : IntKind.i64.wrap ((i : Int) - 1) = i - 1 := w64 (by omega) (by omega)
    obtain ⟨y, hy⟩ : ∃ y, l[i - 1]? = some y := ⟨_, List.getElem?_eq_getElem (by omega)⟩
    have hx := List.getElem?_eq_getElem hi
    simp [Ingot.rows, hi]
    refine CallZ.use0 (c_l13One l[i] _ _ (by simp [hi])) rfl rfl ?_
    simp [Ingot.cells, hi, hy, e1]
    have ho := upAt_eq ingotOk ltIngot hx hy
    iterate 6 refine ⟨by grind, ?_⟩
    refine ⟨fun h => ?_, fun h1 h2 => ⟨upto_succ hI ?_, ?_⟩⟩
    · have : upAt ingotOk ltIngot l i = false := by
        rw [ho, ltIngot]
        rcases h with h | ⟨h, h'⟩
        · simp [h]
        · have h4 : ¬ i = 0 := by omega
          simp [h', h4]
      simp only [ingotsOk, upOk, all_range_false hi this, Bool.false_and]
    · rw [ho, ltIngot, h1, Bool.true_and]
      by_cases h4 : i = 0
      · simp [h4]
      · simp [h2 (by omega)]
    · refine Wk.weak (ρ := []) (φ := []) ?_
      simp
      exact w64 (by omega) (by omega)
  · simp [Ingot.rows]
    simp only [ingotsOk, upOk, all_range_true hI, Bool.true_and]
set_option maxHeartbeats 1000000 in
theorem c_impl_ValidPlaces (l : List Place) (hl : l.length ≤ 1048576) : HFn Tryz.prog 194 [.sl 5 (Place.rows l)] [] (.bool (placesOk l)) [] := by
  refine hfn_intro hm Tryz.func194 (by kernel_rfl) rfl (by kernel_rfl) rfl ret0_ok ?_
  simp [Place.rows]
  refine loop_upto hm l.length (fun i => ⟨[(0, .sl 5 (Place.rows l)), (5, .sl 5 (Place.rows l)), (6, .int .i64 l.length), (7, .int .i64 i)], []⟩) (fun i => ∀ j, j < i → upAt placeOk ltPlace l j = true) (by kernel_rfl) ?_ (by simp) (fun i hi hI => ?_) (fun hI => ?_)
  · exact Wk.weak (ρ := []) (φ := []) (by simp [Place.rows])
  · have e1 : IntKind.i64.wrap ((i : Int) - 1) = i - 1 := w64 (by omega) (by omega)
    obtain ⟨y, hy⟩ : ∃ y, l[i - 1]? = some y := ⟨_, List.getElem?_eq_getElem (by omega)⟩
    have hx := List.getElem?_eq_getElem hi
    have kv := c_validPlace l[i]
    simp only [Place.cells] at kv
    simp [Place.rows, Place.cells, hi]
    refine CallZ.use0 kv rfl rfl ?_
    simp [Place.cells, hy, e1]
    have ho := upAt_eq placeOk ltPlace hx hy
    have hs := bytesLess_swap y.bell l[i].bell
    iterate 6 refine ⟨by grind, ?_⟩
    refine ⟨fun h => ?_, fun h1 h2 => ⟨upto_succ hI ?_, ?_⟩⟩
    · have : upAt placeOk ltPlace l i = false := by
        rw [ho, ltPlace]
        rcases h with h | ⟨h, h'⟩
        · simp [h]
        · have h3 : (Op.bytesLess l[i].bell y.bell || decide (l[i].bell = y.bell)) = true := by simpa using h'
          rw [hs] at h3
          have h4 : ¬ i = 0 := by omega
          simp at h3
          simp [h3, h4]
      simp only [placesOk, upOk, all_range_false hi this, Bool.false_and]
    · rw [ho, ltPlace]
      rw [h1, Bool.true_and]
      by_cases h4 : i = 0
      · simp [h4]
      · obtain ⟨h5, h6⟩ := h2 (by omega)
        simp [h5, h6] at hs
        simp [hs]
    · refine Wk.weak (ρ := []) (φ := []) ?_
      simp
      exact w64 (by omega) (by omega)
  · simp [Place.rows]
    simp only [placesOk, upOk, all_range_true hI, Bool.true_and]
set_option maxHeartbeats 1000000 in
theorem c_l23Ok (l : List Place) (hl : l.length ≤ 1048576) : HFn Tryz.prog 43 [.sl 5 (Place.rows l)] [] (.bool (placesOk l)) [] := by
  refine hfn_intro hm Tryz.func43 (by kernel_rfl) rfl (by kernel_rfl) rfl ret0_ok ?_
  simp [Place.rows]
  refine loop_upto hm l.length (fun i => ⟨[(0, .sl 5 (Place.rows l)), (3, .int .i64 i)], []⟩) (fun i => ∀ j, j < i → upAt placeOk ltPlace l j = true) (by kernel_rfl) ?_ (by simp) (fun i hi hI => ?_) (fun hI => ?_)
  · exact Wk.weak (ρ := []) (φ := []) (by simp [Place.rows])
  · have e1 : IntKind.i64.wrap ((i : Int) - 1) = i - 1 := w64 (by omega) (by omega)
    obtain ⟨y, hy⟩ : ∃ y, l[i - 1]? = some y := ⟨_, List.getElem?_eq_getElem (by omega)⟩
    have hx := List.getElem?_eq_getElem hi
    simp [Place.rows, hi]
    refine CallZ.use0 (c_l23One l[i] _ _ (by simp [hi])) rfl rfl ?_
    simp [Place.cells, hi, hy, e1]
    have ho := upAt_eq placeOk ltPlace hx hy
    iterate 6 refine ⟨by grind, ?_⟩
    refine ⟨fun h => ?_, fun h1 h2 => ⟨upto_succ hI ?_, ?_⟩⟩
    · have : upAt placeOk ltPlace l i = false := by
        rw [ho, ltPlace]
        rcases h with h | ⟨h, h'⟩
        · simp [h]
        · have h4 : ¬ i = 0 := by omega
          simp [h', h4]
      simp only [placesOk, upOk, all_range_false hi this, Bool.false_and]
    · rw [ho, ltPlace, h1, Bool.true_and]
      by_cases h4 : i = 0
      · simp [h4]
      · simp [h2 (by omega)]
    · refine Wk.weak (ρ := []) (φ := []) ?_
      simp
      exact w64 (by omega) (by omega)
  · simp [Place.rows]
    simp only [placesOk, upOk, all_range_true hI, Bool.true_and]
set_option maxHeartbeats 1000000 in
theorem c_impl_ValidBells (l : List Bell) (hl : l.length ≤ 1048576) (hw : ∀ x ∈ l, x.shares.length ≤ 1048576) : HFn Tryz.prog 192 [.sl 5 (Bell.rows l)] [] (.bool (bellsOk l)) [] := by
  refine hfn_intro hm Tryz.func192 (by kernel_rfl) rfl (by kernel_rfl) rfl ret0_ok ?_
  simp [Bell.rows]
  refine loop_upto hm l.length (fun i => ⟨[(0, .sl 5 (Bell.rows l)), (5, .sl 5 (Bell.rows l)), (6, .int .i64 l.length), (7, .int .i64 i)], []⟩) (fun i => ∀ j, j < i → upAt bellOk ltBell l j = true) (by kernel_rfl) ?_ (by simp) (fun i hi hI => ?_) (fun hI => ?_)
  · exact Wk.weak (ρ := []) (φ := []) (by simp [Bell.rows])
  · have e1 : IntKind.i64.wrap ((i : Int) - 1) = i - 1 := w64 (by omega) (by omega)
    obtain ⟨y, hy⟩ : ∃ y, l[i - 1]? = some y := ⟨_, List.getElem?_eq_getElem (by omega)⟩
    have hx := List.getElem?_eq_getElem hi
    have kv := c_ValidBell l[i] (hw _ (List.getElem_mem hi))
    simp only [Bell.cells] at kv
    simp [Bell.rows, Bell.cells, hi]
    refine CallZ.use0 kv rfl rfl ?_
    simp [Bell.cells, hy, e1]
    have ho := upAt_eq bellOk ltBell hx hy
    have hs := bytesLess_swap y.id l[i].id
    iterate 6 refine ⟨by grind, ?_⟩
    refine ⟨fun h => ?_, fun h1 h2 => ⟨upto_succ hI ?_, ?_⟩⟩
    · have : upAt bellOk ltBell l i = false := by
        rw [ho, ltBell]
        rcases h with h | ⟨h, h'⟩
        · simp [h]
        · have h3 : (Op.bytesLess l[i].id y.id || decide (l[i].id = y.id)) = true := by simpa using h'
          rw [hs] at h3
          have h4 : ¬ i = 0 := by omega
          simp at h3
          simp [h3, h4]
      simp only [bellsOk, upOk, all_range_false hi this, Bool.false_and]
    · rw [ho, ltBell]
      rw [h1, Bool.true_and]
      by_cases h4 : i = 0
      · simp [h4]
      · obtain ⟨h5, h6⟩ := h2 (by omega)
        simp [h5, h6] at hs
        simp [hs]
    · refine Wk.weak (ρ := []) (φ := []) ?_
      simp
      exact w64 (by omega) (by omega)
  · simp [Bell.rows]
    simp only [bellsOk, upOk, all_range_true hI, Bool.true_and]
set_option maxHeartbeats 1000000 in
theorem c_l18Ok (l : List Bell) (hl : l.length ≤ 1048576) (hw : ∀ x ∈ l, x.shares.length ≤ 1048576) : HFn Tryz.prog 103 [.sl 5 (Bell.rows l)] [] (.bool (bellsOk l)) [] := by
  refine hfn_intro hm Tryz.func103 (by kernel_rfl) rfl (by kernel_rfl) rfl ret0_ok ?_
  simp [Bell.rows]
  refine loop_upto hm l.length (fun i => ⟨[(0, .sl 5 (Bell.rows l)), (3, .int .i64 i)], []⟩) (fun i => ∀ j, j < i → upAt bellOk ltBell l j = true) (by kernel_rfl) ?_ (by simp) (fun i hi hI => ?_) (fun hI => ?_)
  · exact Wk.weak (ρ := []) (φ := []) (by simp [Bell.rows])
  · have e1 : IntKind.i64.wrap ((i : Int) - 1) = i - 1 := w64 (by omega) (by omega)
    obtain ⟨y, hy⟩ : ∃ y, l[i - 1]? = some y := ⟨_, List.getElem?_eq_getElem (by omega)⟩
    have hx := List.getElem?_eq_getElem hi
    simp [Bell.rows, hi]
    refine CallZ.use0 (c_l18One l[i] _ _ (by simp [hi]) (hw _ (List.getElem_mem hi))) rfl rfl ?_
    simp [Bell.cells, hi, hy, e1]
    have ho := upAt_eq bellOk ltBell hx hy
    iterate 6 refine ⟨by grind, ?_⟩
    refine ⟨fun h => ?_, fun h1 h2 => ⟨upto_succ hI ?_, ?_⟩⟩
    · have : upAt bellOk ltBell l i = false := by
        rw [ho, ltBell]
        rcases h with h | ⟨h, h'⟩
        · simp [h]
        · have h4 : ¬ i = 0 := by omega
          simp [h', h4]
      simp only [bellsOk, upOk, all_range_false hi this, Bool.false_and]
    · rw [ho, ltBell, h1, Bool.true_and]
      by_cases h4 : i = 0
      · simp [h4]
      · simp [h2 (by omega)]
    · refine Wk.weak (ρ := []) (φ := []) ?_
      simp
      exact w64 (by omega) (by omega)
  · simp [Bell.rows]
    simp only [bellsOk, upOk, all_range_true hI, Bool.true_and]
set_option maxHeartbeats 1000000 in
theorem c_impl_ValidFrame (l : List Beam) (hl : l.length ≤ 1048576) (hw : ∀ x ∈ l, x.loads.length ≤ 1048576) : HFn Tryz.prog 197 [.sl 6 (Beam.rows l)] [] (.bool (frameOk l)) [] := by
  refine hfn_intro hm Tryz.func197 (by kernel_rfl) rfl (by kernel_rfl) rfl ret0_ok ?_
  simp [Beam.rows]
  refine loop_upto hm l.length (fun i => ⟨[(0, .sl 6 (Beam.rows l)), (5, .sl 6 (Beam.rows l)), (6, .int .i64 l.length), (7, .int .i64 i)], []⟩) (fun i => ∀ j, j < i → upAt beamOk ltBeam l j = true) (by kernel_rfl) ?_ (by simp) (fun i hi hI => ?_) (fun hI => ?_)
  · exact Wk.weak (ρ := []) (φ := []) (by simp [Beam.rows])
  · have e1 : IntKind.i64.wrap ((i : Int) - 1) = i - 1 := w64 (by omega) (by omega)
    obtain ⟨y, hy⟩ : ∃ y, l[i - 1]? = some y := ⟨_, List.getElem?_eq_getElem (by omega)⟩
    have hx := List.getElem?_eq_getElem hi
    have kv := c_ValidBeam l[i] (hw _ (List.getElem_mem hi))
    simp only [Beam.cells] at kv
    simp [Beam.rows, Beam.cells, hi]
    refine CallZ.use0 kv rfl rfl ?_
    simp [Beam.cells, hy, e1]
    have ho := upAt_eq beamOk ltBeam hx hy
    have hs := bytesLess_swap y.name l[i].name
    iterate 6 refine ⟨by grind, ?_⟩
    refine ⟨fun h => ?_, fun h1 h2 => ⟨upto_succ hI ?_, ?_⟩⟩
    · have : upAt beamOk ltBeam l i = false := by
        rw [ho, ltBeam]
        rcases h with h | ⟨h, h'⟩
        · simp [h]
        · have h3 : (Op.bytesLess l[i].name y.name || decide (l[i].name = y.name)) = true := by simpa using h'
          rw [hs] at h3
          have h4 : ¬ i = 0 := by omega
          simp at h3
          simp [h3, h4]
      simp only [frameOk, upOk, all_range_false hi this, Bool.false_and]
    · rw [ho, ltBeam]
      rw [h1, Bool.true_and]
      by_cases h4 : i = 0
      · simp [h4]
      · obtain ⟨h5, h6⟩ := h2 (by omega)
        simp [h5, h6] at hs
        simp [hs]
    · refine Wk.weak (ρ := []) (φ := []) ?_
      simp
      exact w64 (by omega) (by omega)
  · simp [Beam.rows]
    simp only [frameOk, upOk, all_range_true hI, Bool.true_and]
set_option maxHeartbeats 1000000 in
theorem c_spec_ValidFrame (l : List Beam) (hl : l.length ≤ 1048576) (hw : ∀ x ∈ l, x.loads.length ≤ 1048576) : HFn Tryz.prog 106 [.sl 6 (Beam.rows l)] [] (.bool (frameOk l)) [] := by
  refine hfn_intro hm Tryz.func106 (by kernel_rfl) rfl (by kernel_rfl) rfl ret0_ok ?_
  simp [Beam.rows]
  refine loop_upto hm l.length (fun i => ⟨[(0, .sl 6 (Beam.rows l)), (3, .int .i64 i)], []⟩) (fun i => ∀ j, j < i → upAt beamOk ltBeam l j = true) (by kernel_rfl) ?_ (by simp) (fun i hi hI => ?_) (fun hI => ?_)
  · exact Wk.weak (ρ := []) (φ := []) (by simp [Beam.rows])
  · have e1 : IntKind.i64.wrap ((i : Int) - 1) = i - 1 := w64 (by omega) (by omega)
    obtain ⟨y, hy⟩ : ∃ y, l[i - 1]? = some y := ⟨_, List.getElem?_eq_getElem (by omega)⟩
    have hx := List.getElem?_eq_getElem hi
    simp [Beam.rows, hi]
    refine CallZ.use0 (c_l21Ok l[i] _ _ (by simp [hi]) (hw _ (List.getElem_mem hi))) rfl rfl ?_
    simp [Beam.cells, hi, hy, e1]
    have ho := upAt_eq beamOk ltBeam hx hy
    iterate 6 refine ⟨by grind, ?_⟩
    refine ⟨fun h => ?_, fun h1 h2 => ⟨upto_succ hI ?_, ?_⟩⟩
    · have : upAt beamOk ltBeam l i = false := by
        rw [ho, ltBeam]
        rcases h with h | ⟨h, h'⟩
        · simp [h]
        · have h4 : ¬ i = 0 := by omega
          simp [h', h4]
      simp only [frameOk, upOk, all_range_false hi this, Bool.false_and]
    · rw [ho, ltBeam, h1, Bool.true_and]
      by_cases h4 : i = 0
      · simp [h4]
      · simp [h2 (by omega)]
    · refine Wk.weak (ρ := []) (φ := []) ?_
      simp
      exact w64 (by omega) (by omega)
  · simp [Beam.rows]
    simp only [frameOk, upOk, all_range_true hI, Bool.true_and]
end Go.Proofs.YtcjpfjklhhclmaaGreatDoor
-- from Fl
namespace Go.Proofs.YtcjpfjklhhclmaaGreatDoor
open Go Go.Ab
set_option maxRecDepth 100000

set_option maxHeartbeats 1000000 in
theorem c_impl_ValidClavier (l : List Action) (hl : l.length ≤ 1048576) (hw : ∀ x ∈ l, x.levers.length ≤ 1048576) : HFn Tryz.prog 198 [.sl 4 (Action.rows l)] [] (.bool (clavierOk l)) [] := by
  refine hfn_intro hm Tryz.func198 (by kernel_rfl) rfl (by kernel_rfl) rfl ret0_ok ?_
  simp [Action.rows]
  refine loop_upto hm l.length (fun i => ⟨[(0, .sl 4 (Action.rows l)), (5, .sl 4 (Action.rows l)), (6, .int .i64 l.length), (7, .int .i64 i)], []⟩) (fun i => ∀ j, j < i → upAt actionOk ltAction l j = true) (by kernel_rfl) ?_ (by simp) (fun i hi hI => ?_) (fun hI => ?_)
  · exact Wk.weak (ρ := []) (φ := []) (by simp [Action.rows])
  · have e1 : IntKind.i64.wrap ((i : Int) - 1) = i - 1 := w64 (by omega) (by omega)
    obtain ⟨y, hy⟩ : ∃ y, l[i - 1]? = some y := ⟨_, List.getElem?_eq_getElem (by omega)⟩
    have hx := List.getElem?_eq_getElem hi
    have kv := c_ValidAction l[i] (hw _ (List.getElem_mem hi))
    simp only [Action.cells] at kv
    simp [Action.rows, Action.cells, hi]
    refine CallZ.use0 kv rfl rfl ?_
    simp [Action.cells, hy, e1]
    have ho := upAt_eq actionOk ltAction hx hy
    repeat refine ⟨by grind, ?_⟩
    refine ⟨fun h => ?_, fun h1 h2 => ⟨upto_succ hI ?_, ?_⟩⟩
    · have : upAt actionOk ltAction l i = false := by
        rw [ho, ltAction]
        grind
      simp only [clavierOk, upOk, all_range_false hi this, Bool.false_and]
    · rw [ho, ltAction]
      grind
    · refine Wk.weak (ρ := []) (φ := []) ?_
      simp
      exact w64 (by omega) (by omega)
  · simp [Action.rows]
    simp only [clavierOk, upOk, all_range_true hI, Bool.true_and]
set_option maxHeartbeats 1000000 in
theorem c_l24Ok (l : List Action) (hl : l.length ≤ 1048576) (hw : ∀ x ∈ l, x.levers.length ≤ 1048576) : HFn Tryz.prog 54 [.sl 4 (Action.rows l)] [] (.bool (clavierOk l)) [] := by
  refine hfn_intro hm Tryz.func54 (by kernel_rfl) rfl (by kernel_rfl) rfl ret0_ok ?_
  simp [Action.rows]
  refine loop_upto hm l.length (fun i => ⟨[(0, .sl 4 (Action.rows l)), (3, .int .i64 i)], []⟩) (fun i => ∀ j, j < i → upAt actionOk ltAction l j = true) (by kernel_rfl) ?_ (by simp) (fun i hi hI => ?_) (fun hI => ?_)
  · exact Wk.weak (ρ := []) (φ := []) (by simp [Action.rows])
  · have e1 : IntKind.i64.wrap ((i : Int) - 1) = i - 1 := w64 (by omega) (by omega)
    obtain ⟨y, hy⟩ : ∃ y, l[i - 1]? = some y := ⟨_, List.getElem?_eq_getElem (by omega)⟩
    have hx := List.getElem?_eq_getElem hi
    simp [Action.rows, hi]
    refine CallZ.use0 (c_l24One l[i] _ _ (by simp [hi]) (hw _ (List.getElem_mem hi))) rfl rfl ?_
    simp [Action.cells, hi, hy, e1]
    have ho := upAt_eq actionOk ltAction hx hy
    repeat refine ⟨by grind, ?_⟩
    refine ⟨fun h => ?_, fun h1 h2 => ⟨upto_succ hI ?_, ?_⟩⟩
    · have : upAt actionOk ltAction l i = false := by
        rw [ho, ltAction]
        grind
      simp only [clavierOk, upOk, all_range_false hi this, Bool.false_and]
    · rw [ho, ltAction]
      grind
    · refine Wk.weak (ρ := []) (φ := []) ?_
      simp
      exact w64 (by omega) (by omega)
  · simp [Action.rows]
    simp only [clavierOk, upOk, all_range_true hI, Bool.true_and]

/-! ### Melts -/
set_option maxHeartbeats 1000000 in
theorem c_areNames (l : List (List UInt8)) (hl : l.length ≤ 1048576) : HFn Tryz.prog 305 [.sl 1 (strRows l)] [] (.bool (namesOk l)) [] := by
  refine hfn_intro hm Tryz.func305 (by kernel_rfl) rfl (by kernel_rfl) rfl ret0_ok ?_
  simp [strRows_len]
  refine loop_upto hm l.length (fun i => ⟨[(0, .sl 1 (strRows l)), (5, .sl 1 (strRows l)), (6, .int .i64 l.length), (7, .int .i64 i)], []⟩) (fun i => ∀ j, j < i → upAt isName Op.bytesLess l j = true) (by kernel_rfl) ?_ (by simp) (fun i hi hI => ?_) (fun hI => ?_)
  · exact Wk.weak (ρ := []) (φ := []) (by simp)
  · have e1 : IntKind.i64.wrap ((i : Int) - 1) = i - 1 := w64 (by omega) (by omega)
    obtain ⟨y, hy⟩ : ∃ y, l[i - 1]? = some y := ⟨_, List.getElem?_eq_getElem (by omega)⟩
    have hx := List.getElem?_eq_getElem hi
    have ho := upAt_eq isName Op.bytesLess hx hy
    have hs := bytesLess_swap y l[i]
    simp [strRows, hi]
    refine CallZ.use0 (c_impl_IsName _) rfl rfl ?_
    simp [hy, e1]
    repeat refine ⟨by grind, ?_⟩
    refine ⟨fun h => ?_, fun h1 h2 => ⟨upto_succ hI ?_, ?_⟩⟩
    · have : upAt isName Op.bytesLess l i = false := by
        rw [ho]
        grind
      simp only [namesOk, upOk, all_range_false hi this]
    · rw [ho]
      grind
    · refine Wk.weak (ρ := []) (φ := []) ?_
      simp
      exact w64 (by omega) (by omega)
  · simp [strRows_len]
    simp only [namesOk, upOk, all_range_true hI]
set_option maxHeartbeats 1000000 in
theorem c_ValidMelt (x : Melt) (hl : x.ingots.length ≤ 1048576) : HFn Tryz.prog 264 [.agg x.cells] [] (.bool (meltOk x)) [] := by
  refine hfn_intro hm Tryz.func264 (by kernel_rfl) rfl (by kernel_rfl) rfl ret0_ok ?_
  simp [Melt.cells]
  refine CallZ.use0 (c_impl_IsName _) rfl rfl ?_
  simp [strRows_len]
  repeat refine ⟨by grind, ?_⟩
  refine CallY.use (fun _ => ⟨rfl, c_areNames x.ingots hl⟩) rfl rfl ?_
  simp
  repeat refine ⟨by grind, ?_⟩
  refine CallY.use (fun _ => ⟨rfl, c_within _ _ _⟩) rfl rfl ?_
  simp
  repeat refine ⟨by grind, ?_⟩
  simp [meltOk]
set_option maxHeartbeats 1000000 in
theorem c_l14One (x : Melt) (rows : List (List PV)) (i0 : Nat) (hr : rows[i0]? = some x.cells) (hl : x.ingots.length ≤ 1048576) : HFn Tryz.prog 186 [.pe 3 rows i0 0] [] (.bool (meltOk x)) [] := by
  have hi0 : i0 < rows.length := (List.getElem?_eq_some_iff.1 hr).1
  have hx0 : rows[i0] = x.cells := (List.getElem?_eq_some_iff.1 hr).2
  rw [Melt.cells] at hr hx0
  refine hfn_intro hm Tryz.func186 (by kernel_rfl) rfl (by kernel_rfl) rfl ret0_ok ?_
  simp [hi0, hx0]
  refine CallZ.use0 (c_spec_l01Name _) rfl rfl ?_
  simp [hi0, hx0, strRows_len]
  repeat refine ⟨by grind, ?_⟩
  refine CallY.use (fun _ => ⟨rfl, c_l00In _ _ _⟩) rfl rfl ?_
  simp
  repeat refine ⟨by grind, ?_⟩
  refine ⟨fun h => ?_, ?_⟩
  · rw [meltOk]
    grind
  intros
  refine loop_upto hm x.ingots.length (fun i => ⟨[(0, .pe 3 rows i0 0), (3, .int .i64 i)], []⟩) (fun i => ∀ j, j < i → upAt isName Op.bytesLess x.ingots j = true) (by kernel_rfl) ?_ (by simp) (fun i hi hI => ?_) (fun hI => ?_)
  · exact Wk.weak (ρ := []) (φ := []) (by simp)
  · have e1 : IntKind.i64.wrap ((i : Int) - 1) = i - 1 := w64 (by omega) (by omega)
    obtain ⟨y, hy⟩ : ∃ y, x.ingots[i - 1]? = some y := ⟨_, List.getElem?_eq_getElem (by omega)⟩
    have hx := List.getElem?_eq_getElem hi
    have ho := upAt_eq isName Op.bytesLess hx hy
    simp [hi0, hx0, strRows, hi]
    refine CallZ.use0 (c_spec_l01Name _) rfl rfl ?_
    simp [hi0, hx0, strRows, hi, hy, e1]
    repeat refine ⟨by grind, ?_⟩
    refine ⟨fun h => ?_, fun h1 h2 => ⟨upto_succ hI ?_, ?_⟩⟩
    · have : upAt isName Op.bytesLess x.ingots i = false := by
        rw [ho]
        grind
      simp [meltOk, namesOk, upOk, all_range_false hi this]
    · rw [ho]
      grind
    · refine Wk.weak (ρ := []) (φ := []) ?_
      simp
      exact w64 (by omega) (by omega)
  · simp [hi0, hx0, strRows_len]
    simp only [meltOk, namesOk, upOk, all_range_true hI]
    grind

def hasIn (l : List (List UInt8)) (s : List UInt8) : Bool := l.any fun x => decide (s = x)
/-- Two melts have an ingot in common. -/
def sharesM (a b : Melt) : Bool := a.ingots.any (hasIn b.ingots)
theorem sharesM_comm (a b : Melt) : sharesM a b = sharesM b a := by
  rw [Bool.eq_iff_iff]
  simp only [sharesM, hasIn, List.any_eq_true, decide_eq_true_eq]
  exact ⟨fun ⟨x, h1, y, h2, e⟩ => ⟨y, h2, x, h1, e.symm⟩, fun ⟨x, h1, y, h2, e⟩ => ⟨y, h2, x, h1, e.symm⟩⟩
theorem c_shares1 (b : Melt) (rows : List (List PV)) (i0 : Nat) (hr : rows[i0]? = some b.cells) (hl : b.ingots.length ≤ 1048576) (s : List UInt8) : HFn Tryz.prog 308 [.str s, .pe 3 rows i0 0] [] (.bool (hasIn b.ingots s)) [] := by
  have hi0 : i0 < rows.length := (List.getElem?_eq_some_iff.1 hr).1
  have hx0 : rows[i0] = b.cells := (List.getElem?_eq_some_iff.1 hr).2
  rw [Melt.cells] at hr hx0
  refine hfn_intro hm Tryz.func308 (by kernel_rfl) rfl (by kernel_rfl) rfl ret0_ok ?_
  simp [hi0, hx0]
  refine CallZ.use0 (c_ContainsStr b.ingots s (by omega)) rfl rfl ?_
  simp [hasIn]
theorem c_shares (a b : Melt) (ha : a.ingots.length ≤ 1048576) (hb : b.ingots.length ≤ 1048576) : HFn Tryz.prog 267 [.agg a.cells, .agg b.cells] [] (.bool (sharesM a b)) [] := by
  refine hfn_intro hm Tryz.func267 (by kernel_rfl) rfl (by kernel_rfl) rfl ret0_ok ?_
  have k := c_ContainsFuncStr1 308 3 [b.cells] 0 0 (hasIn b.ingots) a.ingots (fun x _ => c_shares1 b [b.cells] 0 rfl hb x) (by omega)
  simp only [Melt.cells] at k
  simp [Melt.cells]
  refine CallZ.use0 k rfl rfl ?_
  simp [sharesM]
theorem c_ValidMelts1 (x y : Melt) (rows : List (List PV)) (i0 : Nat) (hr : rows[i0]? = some x.cells) (hx : x.ingots.length ≤ 1048576) (hy : y.ingots.length ≤ 1048576) : HFn Tryz.prog 266 [.agg y.cells, .pe 3 rows i0 0] [] (.bool (sharesM x y)) [] := by
  have hi0 : i0 < rows.length := (List.getElem?_eq_some_iff.1 hr).1
  have hx0 : rows[i0] = x.cells := (List.getElem?_eq_some_iff.1 hr).2
  have k := c_shares x y hx hy
  rw [Melt.cells] at hr hx0
  simp only [Melt.cells] at k
  refine hfn_intro hm Tryz.func266 (by kernel_rfl) rfl (by kernel_rfl) rfl ret0_ok ?_
  simp [hi0, hx0, Melt.cells]
  refine CallZ.use0 k rfl rfl ?_
  simp
/-- Melt i of a list is valid, stands behind the one before it, and has no ingot in common with those before it. -/
def meltAt (l : List Melt) (i : Nat) : Bool := upAt meltOk ltMelt l i && match l[i]? with
  | some x => !(l.take i).any (sharesM x)
  | none => true
def meltsOk (l : List Melt) : Bool := (List.range l.length).all (meltAt l) && decide ((l.length : Int) ≤ 12)
set_option maxHeartbeats 1000000 in
theorem c_impl_ValidMelts (l : List Melt) (hl : l.length ≤ 1048576) (hw : ∀ x ∈ l, x.ingots.length ≤ 1048576) : HFn Tryz.prog 191 [.sl 3 (Melt.rows l)] [] (.bool (meltsOk l)) [] := by
  refine hfn_intro hm Tryz.func191 (by kernel_rfl) rfl (by kernel_rfl) rfl ret0_ok ?_
  simp [Melt.rows_len]
  refine loop_upto hm l.length (fun i => ⟨[(0, .sl 3 (Melt.rows l)), (5, .sl 3 (Melt.rows l)), (6, .int .i64 l.length), (7, .int .i64 i)], []⟩) (fun i => ∀ j, j < i → meltAt l j = true) (by kernel_rfl) ?_ (by simp) (fun i hi hI => ?_) (fun hI => ?_)
  · exact Wk.weak (ρ := []) (φ := []) (by simp)
  · have e1 : IntKind.i64.wrap ((i : Int) - 1) = i - 1 := w64 (by omega) (by omega)
    obtain ⟨y, hy⟩ : ∃ y, l[i - 1]? = some y := ⟨_, List.getElem?_eq_getElem (by omega)⟩
    have hx := List.getElem?_eq_getElem hi
    have kv := c_ValidMelt l[i] (hw _ (List.getElem_mem hi))
    have kc := c_ContainsFuncMelt1 266 3 [l[i].cells] 0 0 (sharesM l[i]) (l.take i) (fun z hz => c_ValidMelts1 l[i] z [l[i].cells] 0 rfl (hw _ (List.getElem_mem hi)) (hw _ (List.mem_of_mem_take hz))) (by rw [List.length_take]; omega)
    simp only [Melt.cells] at kv kc
    simp [Melt.rows, Melt.cells, hi]
    refine CallZ.use0 kv rfl rfl ?_
    simp [Melt.cells, hy, e1]
    have ho := upAt_eq meltOk ltMelt hx hy
    have hs := bytesLess_swap y.id l[i].id
    repeat refine ⟨by grind, ?_⟩
    refine ⟨fun h => ?_, fun h1 h2 => ?_⟩
    · have : meltAt l i = false := by
        rw [meltAt, ho, ltMelt]
        grind
      simp only [meltsOk, all_range_false hi this, Bool.false_and]
    · have hup : upAt meltOk ltMelt l i = true := by
        rw [ho, ltMelt]
        grind
      have er : Melt.rows (l.take i) = (List.map Melt.cells l).take i := by simp [Melt.rows, List.map_take]
      rw [er] at kc
      refine ⟨by omega, CallZ.use0 kc rfl rfl ?_⟩
      simp only [put]
      simp
      refine ⟨fun a h1 h2 => ?_, fun h => ⟨upto_succ hI ?_, ?_⟩⟩
      · have : meltAt l i = false := by
          have h3 : (l.take i).any (sharesM l[i]) = true := List.any_eq_true.2 ⟨a, h1, h2⟩
          simp [meltAt, hx, h3]
        simp only [meltsOk, all_range_false hi this, Bool.false_and]
      · have h3 : (l.take i).any (sharesM l[i]) = false := by
          rw [List.any_eq_false]
          exact fun a ha => by simp [h a ha]
        simp [meltAt, hup, hx, h3]
      · refine Wk.weak (ρ := []) (φ := []) ?_
        simp
        exact w64 (by omega) (by omega)
  · simp [Melt.rows_len]
    simp only [meltsOk, all_range_true hI, Bool.true_and]

theorem c_l14Common (a b : Melt) (ra rb : List (List PV)) (i0 j0 : Nat) (h1 : ra[i0]? = some a.cells) (h2 : rb[j0]? = some b.cells) (ha : a.ingots.length ≤ 1048576) (hb : b.ingots.length ≤ 1048576) : HFn Tryz.prog 187 [.pe 3 ra i0 0, .pe 3 rb j0 0] [] (.bool (sharesM a b)) [] := by
  have hia : i0 < ra.length := (List.getElem?_eq_some_iff.1 h1).1
  have hjb : j0 < rb.length := (List.getElem?_eq_some_iff.1 h2).1
  have ga : ra[i0] = a.cells := (List.getElem?_eq_some_iff.1 h1).2
  have gb : rb[j0] = b.cells := (List.getElem?_eq_some_iff.1 h2).2
  rw [Melt.cells] at h1 h2 ga gb
  refine hfn_intro hm Tryz.func187 (by kernel_rfl) rfl (by kernel_rfl) rfl ret0_ok ?_
  simp
  refine loop_upto hm a.ingots.length (fun i => ⟨[(0, .pe 3 ra i0 0), (1, .pe 3 rb j0 0), (5, .int .i64 i)], []⟩) (fun i => ∀ j (h : j < a.ingots.length), j < i → hasIn b.ingots a.ingots[j] = false) (by kernel_rfl) ?_ (by simp) (fun i hi hI => ?_) (fun hI => ?_)
  · exact Wk.weak (ρ := []) (φ := []) (by simp)
  · simp [hia, ga, strRows_len, hi]
    refine loop_upto hm b.ingots.length (fun k => ⟨[(0, .pe 3 ra i0 0), (1, .pe 3 rb j0 0), (5, .int .i64 i), (6, .int .i64 k)], []⟩) (fun k => ∀ j (h : j < b.ingots.length), j < k → ¬ a.ingots[i] = b.ingots[j]) (by kernel_rfl) ?_ (by simp) (fun k hk hK => ?_) (fun hK => ?_)
    · exact Wk.weak (ρ := []) (φ := []) (by simp)
    · simp [hia, hjb, ga, gb, strRows_len, strRows_get, hi, hk]
      refine ⟨fun h => ?_, fun h => ⟨fun j hj hjk => ?_, ?_⟩⟩
      · refine List.any_eq_true.2 ⟨_, List.getElem_mem hi, List.any_eq_true.2 ⟨_, List.getElem_mem hk, by simpa using h⟩⟩
      · by_cases e : j = k
        · subst e; exact h
        · exact hK j hj (by omega)
      · refine Wk.weak (ρ := []) (φ := []) ?_
        simp
        exact w64 (by omega) (by omega)
    · simp [hjb, gb, strRows_len]
      refine ⟨fun j hj hji => ?_, ?_⟩
      · by_cases e : j = i
        · subst e
          rw [hasIn, List.any_eq_false]
          intro y hy
          obtain ⟨m, hm', rfl⟩ := List.getElem_of_mem hy
          simpa using hK m hm' hm'
        · exact hI j hj (by omega)
      · refine Wk.weak (ρ := []) (φ := []) ?_
        simp
        exact w64 (by omega) (by omega)
  · simp [hia, ga, strRows_len]
    rw [sharesM, List.any_eq_false]
    intro y hy
    obtain ⟨m, hm', rfl⟩ := List.getElem_of_mem hy
    simp [hI m hm' hm']

set_option maxHeartbeats 1000000 in
theorem c_l14Ok (l : List Melt) (hl : l.length ≤ 1048576) (hw : ∀ x ∈ l, x.ingots.length ≤ 1048576) : HFn Tryz.prog 102 [.sl 3 (Melt.rows l)] [] (.bool (meltsOk l)) [] := by
  refine hfn_intro hm Tryz.func102 (by kernel_rfl) rfl (by kernel_rfl) rfl ret0_ok ?_
  simp
  refine loop_upto hm l.length (fun i => ⟨[(0, .sl 3 (Melt.rows l)), (3, .int .i64 i)], []⟩) (fun i => ∀ j, j < i → meltAt l j = true) (by kernel_rfl) ?_ (by simp) (fun i hi hI => ?_) (fun hI => ?_)
  · exact Wk.weak (ρ := []) (φ := []) (by simp)
  · have e1 : IntKind.i64.wrap ((i : Int) - 1) = i - 1 := w64 (by omega) (by omega)
    obtain ⟨y, hy⟩ : ∃ y, l[i - 1]? = some y := ⟨_, List.getElem?_eq_getElem (by omega)⟩
    have hx := List.getElem?_eq_getElem hi
    have ho := upAt_eq meltOk ltMelt hx hy
    simp [Melt.rows, hi]
    refine CallZ.use0 (c_l14One l[i] _ _ (by simp [hi]) (hw _ (List.getElem_mem hi))) rfl rfl ?_
    simp [Melt.cells, hi, hy, e1]
    repeat refine ⟨by grind, ?_⟩
    refine ⟨fun h => ?_, fun h1 h2 => ?_⟩
    · have : meltAt l i = false := by
        rw [meltAt, ho, ltMelt]
        grind
      simp only [meltsOk, all_range_false hi this, Bool.false_and]
    · have hup : upAt meltOk ltMelt l i = true := by
        rw [ho, ltMelt]
        grind
      refine loop_upto hm i (fun k => ⟨[(0, .sl 3 (Melt.rows l)), (3, .int .i64 i), (4, .int .i64 k)], []⟩) (fun k => ∀ j (h : j < l.length), j < k → sharesM l[j] l[i] = false) (by kernel_rfl) ?_ (by simp) (fun k hk hK => ?_) (fun hK => ?_)
      · exact Wk.weak (ρ := []) (φ := []) (by simp [Melt.rows])
      · have hkl : k < l.length := by omega
        simp [Melt.rows_len, hi, hkl, hk]
        refine CallZ.use0 (c_l14Common l[k] l[i] (Melt.rows l) (Melt.rows l) k i (by simp [Melt.rows, hkl]) (by simp [Melt.rows, hi]) (hw _ (List.getElem_mem hkl)) (hw _ (List.getElem_mem hi))) rfl rfl ?_
        simp
        refine ⟨fun h => ?_, fun h => ⟨fun j hj hjk => ?_, ?_⟩⟩
        · have : meltAt l i = false := by
            have h3 : (l.take i).any (sharesM l[i]) = true := List.any_eq_true.2 ⟨l[k], List.mem_take_iff_getElem.2 ⟨k, by omega, rfl⟩, by rw [sharesM_comm]; exact h⟩
            simp [meltAt, hx, h3]
          simp only [meltsOk, all_range_false hi this, Bool.false_and]
        · by_cases e : j = k
          · subst e; exact h
          · exact hK j hj (by omega)
        · refine Wk.weak (ρ := []) (φ := []) ?_
          simp
          exact w64 (by omega) (by omega)
      · simp [Melt.rows_len]
        refine ⟨upto_succ hI ?_, ?_⟩
        · have h3 : (l.take i).any (sharesM l[i]) = false := by
            rw [List.any_eq_false]
            intro a ha
            obtain ⟨k, hk, rfl⟩ := List.mem_take_iff_getElem.1 ha
            rw [sharesM_comm, hK k (by omega) (by omega)]
            simp
          simp [meltAt, hup, hx, h3]
        · refine Wk.weak (ρ := []) (φ := []) ?_
          simp [Melt.rows]
          exact w64 (by omega) (by omega)
  · simp [Melt.rows_len]
    simp only [meltsOk, all_range_true hI, Bool.true_and]
end Go.Proofs.YtcjpfjklhhclmaaGreatDoor
