/- Contracts: places outside a chamber, places that clash. No condition. -/
import Derived.Test.YtcjpfjklhhclmaaGreatDoorBi
import Derived.Test.YtcjpfjklhhclmaaGreatDoorKf
namespace Go.Proofs.YtcjpfjklhhclmaaGreatDoor
open Go Go.Ab
set_option maxRecDepth 100000

/-! ### Places outside -/
def fitsC (c : Chamber) (p : Place) (gap : Int) : Bool :=
  (decide (IntKind.i64.wrap (p.reach + gap) ≤ p.x) && decide (p.x ≤ IntKind.i64.wrap (c.width - IntKind.i64.wrap (p.reach + gap)))) && (decide (IntKind.i64.wrap (p.reach + gap) ≤ p.y) && decide (p.y ≤ IntKind.i64.wrap (c.length - IntKind.i64.wrap (p.reach + gap)))) && (decide (IntKind.i64.wrap (p.reach + gap) ≤ p.z) && decide (p.z ≤ IntKind.i64.wrap (c.height - IntKind.i64.wrap (p.reach + gap))))
theorem c_fitsChamber (c : Chamber) (p : Place) (gap : Int) : HFn Tryz.prog 204 [.agg c.cells, .agg p.cells, .int .i64 gap] [] (.bool (fitsC c p gap)) [] := by
  refine hfn_intro hm Tryz.func204 (by kernel_rfl) rfl (by kernel_rfl) rfl ret0_ok ?_
  simp [Chamber.cells, Place.cells]
  refine CallZ.use0 (c_within _ _ _) rfl rfl ?_
  simp
  repeat refine ⟨by grind, ?_⟩
  refine CallY.use (fun _ => ⟨rfl, c_within _ _ _⟩) rfl rfl ?_
  simp
  repeat refine ⟨by grind, ?_⟩
  refine CallY.use (fun _ => ⟨rfl, c_within _ _ _⟩) rfl rfl ?_
  simp [fitsC]
/-- The first places that are outside. -/
def outTo (c : Chamber) (l : List Place) (gap : Int) (i : Nat) : List Int := ((List.range i).filter fun j => match l[j]? with
  | some p => !fitsC c p gap
  | none => false).map fun (j : Nat) => (j : Int)
theorem outTo_succ (c : Chamber) (l : List Place) (gap : Int) {i : Nat} (hi : i < l.length) : outTo c l gap (i + 1) = if fitsC c l[i] gap = true then outTo c l gap i else outTo c l gap i ++ [(i : Int)] := by
  unfold outTo
  rw [List.range_succ, List.filter_append, List.map_append]
  cases h : fitsC c l[i] gap <;> simp [hi, h]
theorem outTo_le (c : Chamber) (l : List Place) (gap : Int) (i : Nat) : (outTo c l gap i).length ≤ i := by
  unfold outTo
  rw [List.length_map]
  exact Nat.le_trans (List.length_filter_le _ _) (by simp)
theorem outTo_mem {c : Chamber} {l : List Place} {gap : Int} {i : Nat} {k : Int} (h : k ∈ outTo c l gap i) : ∃ j : Nat, k = j ∧ j < l.length := by
  unfold outTo at h
  obtain ⟨j, hj, rfl⟩ := List.mem_map.1 h
  rw [List.mem_filter] at hj
  refine ⟨j, rfl, ?_⟩
  by_cases hl : j < l.length
  · exact hl
  · have := hj.2
    rw [List.getElem?_eq_none (by omega)] at this
    simp at this
theorem places_len {l : List Place} (h : placesOk l = true) : l.length ≤ 24 := by
  simp only [placesOk, Bool.and_eq_true, decide_eq_true_eq] at h
  omega
set_option maxHeartbeats 2000000 in
theorem c_impl_OutsideOf (c : Chamber) (l : List Place) (gap : Int) (hc : chamberOk c = true) (hl : placesOk l = true) (hg : 0 ≤ gap ∧ gap ≤ 5000) :
    HFn Tryz.prog 114 [.agg c.cells, .sl 5 (Place.rows l), .int .i64 gap] [] (.tup [.sf 0 1, .int .i64 0]) [some (.arr 1 (intRows (outTo c l gap l.length)))] := by
  have hlen := places_len hl
  have kC := c_ValidChamber c
  have kF := fun p => c_fitsChamber c p gap
  simp only [Chamber.cells, Place.cells] at kC kF
  refine hfn_intro hm Tryz.func114 (by kernel_rfl) rfl (by kernel_rfl) rfl (fun _ _ h => h) ?_
  simp [Chamber.cells]
  refine CallZ.use0 kC rfl rfl ?_
  simp [hc]
  first | refine CallZ.use0 (c_impl_ValidPlaces l (by omega)) rfl rfl ?_ | refine CallY.use (fun _ => ⟨rfl, c_impl_ValidPlaces l (by omega)⟩) rfl rfl ?_
  simp [hl]
  refine CallZ.use0 (c_isSpace gap) rfl rfl ?_
  simp [hg]
  refine loop_upto hm l.length (fun i => ⟨[(2, .int .i64 gap), (3, .pb 0 0), (8, .sf 1 1), (24, .sl 5 (Place.rows l)), (25, .int .i64 l.length), (26, .int .i64 i)], [some (.box [.int .i64 c.width, .int .i64 c.length, .int .i64 c.height]), some (.arr 1 (intRows (outTo c l gap i)))]⟩) (fun _ => True) (by kernel_rfl) ?_ trivial (fun i hi _ => ?_) (fun _ => ?_)
  · exact (weak_nil (t := 8) (z := 1) rfl).trans (Wk.weak (ρ := [0, 1]) (φ := []) (by simp [outTo, intRows, Place.rows_len]))
  · have w1 : IntKind.i64.wrap ((i : Int) + 1) = (i : Int) + 1 := w64 (by omega) (by omega)
    have hle := outTo_le c l gap i
    rw [outTo_succ c l gap hi]
    generalize outTo c l gap i = T at hle ⊢
    simp [Place.rows, Place.cells, hi]
    refine CallZ.use0 (kF l[i]) rfl rfl ?_
    simp [intRows_len]
    refine ⟨fun h => ⟨by simp [rowsOne], by omega, by omega, Wk.weak (ρ := [0, 1]) (φ := []) ?_⟩, fun h => Wk.weak (ρ := [0, 1]) (φ := []) ?_⟩
    · simp [w1, h, intRows_app]
      rfl
    · simp [w1, h]
  · simp
    exact Wk.weak (ρ := [1]) (φ := []) (by simp)
/-! ### Places that clash -/
def clear2 (a b : Place) : Int := (a.x - b.x) * (a.x - b.x) + (a.y - b.y) * (a.y - b.y) + (a.z - b.z) * (a.z - b.z)
def clearV (a b : Place) : Int := IntKind.i64.wrap (IntKind.i64.wrap (rootV (clear2 a b) - a.reach) - b.reach)
theorem sq_le {d M : Int} (h1 : -M ≤ d) (h2 : d ≤ M) : 0 ≤ d * d ∧ d * d ≤ M * M := by
  refine ⟨sq_nn d, ?_⟩
  have h := Int.mul_nonneg (show 0 ≤ M - d by omega) (show 0 ≤ M + d by omega)
  have e : (M - d) * (M + d) = M * M - d * d := by grind
  omega
theorem place_in {p : Place} (h : placeOk p = true) : (0 ≤ p.x ∧ p.x ≤ 20000) ∧ (0 ≤ p.y ∧ p.y ≤ 20000) ∧ (0 ≤ p.z ∧ p.z ≤ 20000) := by
  simp only [placeOk, Bool.and_eq_true, decide_eq_true_eq] at h
  omega
theorem c_clearance (a b : Place) (ha : placeOk a = true) (hb : placeOk b = true) : HFn Tryz.prog 205 [.agg a.cells, .agg b.cells] [] (.int .i64 (clearV a b)) [] := by
  obtain ⟨⟨a1, a2⟩, ⟨a3, a4⟩, a5, a6⟩ := place_in ha
  obtain ⟨⟨b1, b2⟩, ⟨b3, b4⟩, b5, b6⟩ := place_in hb
  have wx : IntKind.i64.wrap (a.x - b.x) = a.x - b.x := w64 (by omega) (by omega)
  have wy : IntKind.i64.wrap (a.y - b.y) = a.y - b.y := w64 (by omega) (by omega)
  have wz : IntKind.i64.wrap (a.z - b.z) = a.z - b.z := w64 (by omega) (by omega)
  obtain ⟨x1, x2⟩ := sq_le (d := a.x - b.x) (M := 20000) (by omega) (by omega)
  obtain ⟨y1, y2⟩ := sq_le (d := a.y - b.y) (M := 20000) (by omega) (by omega)
  obtain ⟨z1, z2⟩ := sq_le (d := a.z - b.z) (M := 20000) (by omega) (by omega)
  have wxx : IntKind.i64.wrap ((a.x - b.x) * (a.x - b.x)) = (a.x - b.x) * (a.x - b.x) := w64 (by omega) (by omega)
  have wyy : IntKind.i64.wrap ((a.y - b.y) * (a.y - b.y)) = (a.y - b.y) * (a.y - b.y) := w64 (by omega) (by omega)
  have wzz : IntKind.i64.wrap ((a.z - b.z) * (a.z - b.z)) = (a.z - b.z) * (a.z - b.z) := w64 (by omega) (by omega)
  have w1 : IntKind.i64.wrap ((a.x - b.x) * (a.x - b.x) + (a.y - b.y) * (a.y - b.y)) = (a.x - b.x) * (a.x - b.x) + (a.y - b.y) * (a.y - b.y) := w64 (by omega) (by omega)
  have w2 : IntKind.i64.wrap ((a.x - b.x) * (a.x - b.x) + (a.y - b.y) * (a.y - b.y) + (a.z - b.z) * (a.z - b.z)) = (a.x - b.x) * (a.x - b.x) + (a.y - b.y) * (a.y - b.y) + (a.z - b.z) * (a.z - b.z) := w64 (by omega) (by omega)
  have kr := c_RootOf (clear2 a b) ⟨by unfold clear2; omega, by unfold clear2; omega⟩ (by unfold clear2; omega)
  rw [clear2] at kr
  refine hfn_intro hm Tryz.func205 (by kernel_rfl) rfl (by kernel_rfl) rfl ret0_ok ?_
  simp [Place.cells, wx, wy, wz, wxx, wyy, wzz, w1, w2]
  refine CallZ.use0 kr rfl rfl ?_
  simp [clearV, clear2]
theorem c_l23Clear (a b : Place) (ra rb : List (List PV)) (i j : Nat) (h1 : ra[i]? = some a.cells) (h2 : rb[j]? = some b.cells) (ha : placeOk a = true) (hb : placeOk b = true) : HFn Tryz.prog 131 [.pe 5 ra i 0, .pe 5 rb j 0] [] (.int .i64 (clearV a b)) [] := by
  obtain ⟨⟨a1, a2⟩, ⟨a3, a4⟩, a5, a6⟩ := place_in ha
  obtain ⟨⟨b1, b2⟩, ⟨b3, b4⟩, b5, b6⟩ := place_in hb
  have wx : IntKind.i64.wrap (a.x - b.x) = a.x - b.x := w64 (by omega) (by omega)
  have wy : IntKind.i64.wrap (a.y - b.y) = a.y - b.y := w64 (by omega) (by omega)
  have wz : IntKind.i64.wrap (a.z - b.z) = a.z - b.z := w64 (by omega) (by omega)
  obtain ⟨x1, x2⟩ := sq_le (d := a.x - b.x) (M := 20000) (by omega) (by omega)
  obtain ⟨y1, y2⟩ := sq_le (d := a.y - b.y) (M := 20000) (by omega) (by omega)
  obtain ⟨z1, z2⟩ := sq_le (d := a.z - b.z) (M := 20000) (by omega) (by omega)
  have wxx : IntKind.i64.wrap ((a.x - b.x) * (a.x - b.x)) = (a.x - b.x) * (a.x - b.x) := w64 (by omega) (by omega)
  have wyy : IntKind.i64.wrap ((a.y - b.y) * (a.y - b.y)) = (a.y - b.y) * (a.y - b.y) := w64 (by omega) (by omega)
  have wzz : IntKind.i64.wrap ((a.z - b.z) * (a.z - b.z)) = (a.z - b.z) * (a.z - b.z) := w64 (by omega) (by omega)
  have w1 : IntKind.i64.wrap ((a.x - b.x) * (a.x - b.x) + (a.y - b.y) * (a.y - b.y)) = (a.x - b.x) * (a.x - b.x) + (a.y - b.y) * (a.y - b.y) := w64 (by omega) (by omega)
  have w2 : IntKind.i64.wrap ((a.x - b.x) * (a.x - b.x) + (a.y - b.y) * (a.y - b.y) + (a.z - b.z) * (a.z - b.z)) = (a.x - b.x) * (a.x - b.x) + (a.y - b.y) * (a.y - b.y) + (a.z - b.z) * (a.z - b.z) := w64 (by omega) (by omega)
  have kr := c_l01Root (clear2 a b) ⟨by unfold clear2; omega, by unfold clear2; omega⟩ (by unfold clear2; omega)
  rw [clear2] at kr
  have hia : i < ra.length := (List.getElem?_eq_some_iff.1 h1).1
  have hjb : j < rb.length := (List.getElem?_eq_some_iff.1 h2).1
  have ga : ra[i] = a.cells := (List.getElem?_eq_some_iff.1 h1).2
  have gb : rb[j] = b.cells := (List.getElem?_eq_some_iff.1 h2).2
  rw [Place.cells] at h1 h2 ga gb
  refine hfn_intro hm Tryz.func131 (by kernel_rfl) rfl (by kernel_rfl) rfl ret0_ok ?_
  simp [hia, hjb, ga, gb, wx, wy, wz, wxx, wyy, wzz, w1, w2]
  refine CallZ.use0 kr rfl rfl ?_
  simp [hia, hjb, ga, gb, clearV, clear2]

def hitB (l : List Place) (gap : Int) (i j : Nat) : Bool := match l[i]?, l[j]? with
  | some a, some b => decide (clearV a b < gap)
  | _, _ => false
/-- The clashes of place i with those behind it, up to place j; of the first places with all. -/
def rowTo (l : List Place) (gap : Int) (i j : Nat) : List (Nat × Nat) := ((List.range j).filter fun k => decide (i < k) && hitB l gap i k).map fun k => (i, k)
def clashTo (l : List Place) (gap : Int) (i : Nat) : List (Nat × Nat) := ((List.range i).map fun a => rowTo l gap a l.length).flatten
def pairRows (L : List (Nat × Nat)) : List (List PV) := L.map fun x => [.sl 1 (intRows [(x.1 : Int), (x.2 : Int)])]
theorem pairRows_len (L : List (Nat × Nat)) : (pairRows L).length = L.length := by simp [pairRows]
theorem pairRows_app (L M : List (Nat × Nat)) : pairRows (L ++ M) = pairRows L ++ pairRows M := by simp [pairRows]
theorem rowTo_succ (l : List Place) (gap : Int) (i j : Nat) : rowTo l gap i (j + 1) = if (decide (i < j) && hitB l gap i j) = true then rowTo l gap i j ++ [(i, j)] else rowTo l gap i j := by
  unfold rowTo
  rw [List.range_succ, List.filter_append, List.map_append]
  cases h : (decide (i < j) && hitB l gap i j) <;> simp [h]
theorem rowTo_start (l : List Place) (gap : Int) (i : Nat) : rowTo l gap i (i + 1) = [] := by
  unfold rowTo
  rw [List.map_eq_nil_iff, List.filter_eq_nil_iff]
  intro k hk
  have := List.mem_range.1 hk
  have h : ¬ i < k := by omega
  simp [h]
theorem rowTo_le (l : List Place) (gap : Int) (i j : Nat) : (rowTo l gap i j).length ≤ j := by
  unfold rowTo
  rw [List.length_map]
  exact Nat.le_trans (List.length_filter_le _ _) (by simp)
theorem clashTo_succ (l : List Place) (gap : Int) (i : Nat) : clashTo l gap (i + 1) = clashTo l gap i ++ rowTo l gap i l.length := by
  unfold clashTo
  rw [List.range_succ]
  simp
theorem clashTo_le (l : List Place) (gap : Int) (i : Nat) : (clashTo l gap i).length ≤ i * l.length := by
  induction i with
  | zero => simp [clashTo]
  | succ i ih =>
    rw [clashTo_succ, List.length_append, Nat.add_mul]
    have := rowTo_le l gap i l.length
    omega
theorem rowTo_mem {l : List Place} {gap : Int} {i j : Nat} {x : Nat × Nat} (h : x ∈ rowTo l gap i j) : x.1 < l.length ∧ x.2 < l.length := by
  unfold rowTo at h
  obtain ⟨k, hk, rfl⟩ := List.mem_map.1 h
  rw [List.mem_filter, Bool.and_eq_true] at hk
  have h2 := hk.2.2
  unfold hitB at h2
  by_cases h3 : i < l.length
  · by_cases h4 : k < l.length
    · exact ⟨h3, h4⟩
    · rw [List.getElem?_eq_none (by omega : l.length ≤ k)] at h2
      split at h2
      · rename_i hh; cases hh
      · cases h2
  · rw [List.getElem?_eq_none (by omega : l.length ≤ i)] at h2
    split at h2
    · rename_i hh _; cases hh
    · cases h2
theorem clashTo_mem {l : List Place} {gap : Int} {i : Nat} {x : Nat × Nat} (h : x ∈ clashTo l gap i) : x.1 < l.length ∧ x.2 < l.length := by
  unfold clashTo at h
  obtain ⟨r, hr, hx⟩ := List.mem_flatten.1 h
  obtain ⟨a, _, rfl⟩ := List.mem_map.1 hr
  exact rowTo_mem hx
theorem hit_at {l : List Place} (gap : Int) {i j : Nat} (hi : i < l.length) (hj : j < l.length) : hitB l gap i j = decide (clearV l[i] l[j] < gap) := by simp [hitB, hi, hj]
theorem place_at {l : List Place} (h : placesOk l = true) {i : Nat} (hi : i < l.length) : placeOk l[i] = true := by
  simp only [placesOk, Bool.and_eq_true] at h
  exact upOk_mem h.1 _ (List.getElem_mem hi)

set_option maxHeartbeats 4000000 in
theorem c_clashes (l : List Place) (gap : Int) (hl : placesOk l = true) : HFn Tryz.prog 115 [.sl 5 (Place.rows l), .int .i64 gap] [] (.sl 1 (pairRows (clashTo l gap l.length))) [] := by
  have hlen := places_len hl
  refine hfn_intro hm Tryz.func115 (by kernel_rfl) rfl (by kernel_rfl) rfl (fun _ _ h => h) ?_
  simp [Place.rows_len]
  refine loop_upto hm l.length (fun i => ⟨[(0, .sl 5 (Place.rows l)), (1, .int .i64 gap), (5, .sf 0 1), (9, .int .i64 l.length), (10, .int .i64 i)], [some (.arr 1 (pairRows (clashTo l gap i)))]⟩) (fun _ => True) (by kernel_rfl) ?_ trivial (fun i hi _ => ?_) (fun _ => ?_)
  · exact (weak_nil (t := 5) (z := 1) rfl).trans (Wk.weak (ρ := [0]) (φ := []) (by simp [clashTo, pairRows]))
  · have w1 : IntKind.i64.wrap ((i : Int) + 1) = (i : Int) + 1 := w64 (by omega) (by omega)
    have hcl := clashTo_le l gap i
    have hcl2 : i * l.length ≤ 24 * 24 := Nat.mul_le_mul (by omega) hlen
    simp [hi]
    refine loop_uptoL hm [9] (l.length - (i + 1)) (fun k => ⟨[(0, .sl 5 (Place.rows l)), (1, .int .i64 gap), (5, .sf 0 1), (6, .int .i64 i), (7, .int .i64 ((i + 1 + k : Nat) : Int)), (9, .int .i64 l.length), (10, .int .i64 i)], [some (.arr 1 (pairRows (clashTo l gap i ++ rowTo l gap i (i + 1 + k))))]⟩) (fun _ => True) (by kernel_rfl) ?_ trivial (fun k hk _ => ?_) (fun _ => ?_)
    · refine Wk.weak (ρ := [0]) (φ := []) ?_
      simp [rowTo_start, w1]
    · obtain ⟨j, hj⟩ : ∃ j, j = i + 1 + k := ⟨_, rfl⟩
      have hjl : j < l.length := by omega
      have hij : i < j := by omega
      have ej : i + 1 + (k + 1) = j + 1 := by omega
      have w2 : IntKind.i64.wrap ((j : Int) + 1) = (j : Int) + 1 := w64 (by omega) (by omega)
      have hh := hit_at gap hi hjl
      have hle := rowTo_le l gap i j
      rw [ej, ← hj, rowTo_succ, hh]
      have hle2 : (clashTo l gap i ++ rowTo l gap i j).length ≤ 1000 := by rw [List.length_append]; omega
      rw [show (if (decide (i < j) && decide (clearV l[i] l[j] < gap)) = true then rowTo l gap i j ++ [(i, j)] else rowTo l gap i j) = rowTo l gap i j ++ (if clearV l[i] l[j] < gap then [(i, j)] else []) by by_cases h : clearV l[i] l[j] < gap <;> simp [h, hij], ← List.append_assoc]
      generalize clashTo l gap i ++ rowTo l gap i j = T at hle2 ⊢
      have kc := c_clearance l[i] l[j] (place_at hl hi) (place_at hl hjl)
      simp only [Place.cells] at kc
      simp [Place.rows, Place.cells, hi, hjl]
      refine CallZ.use0 kc rfl rfl ?_
      simp
      refine ⟨fun h => ?_, fun h => Wk.weak (ρ := [0]) (φ := []) ?_⟩
      · refine ends_cut 4 (by kernel_rfl) ?_
        simp
        refine ⟨⟨[(0, .sl 5 (Place.rows l)), (1, .int .i64 gap), (5, .sf 0 1), (6, .int .i64 i), (7, .int .i64 j), (9, .int .i64 l.length), (10, .int .i64 i), (32, .sf 0 1), (35, .sl 1 (intRows [(i : Int), (j : Int)]))], [some (.arr 1 (pairRows T))]⟩, Wk.weak (ρ := [0]) (φ := [1]) (by simp [intRows, Place.rows]), ?_⟩
        simp [pairRows_len]
        refine ⟨by simp [rowsOne], by omega, by omega, Wk.weak (ρ := [0]) (φ := []) ?_⟩
        simp [w2, h, pairRows_app, Place.rows]
        simp [pairRows]
      · have h' : ¬ clearV l[i] l[j] < gap := by omega
        simp [w2, h']
    · rw [show i + 1 + (l.length - (i + 1)) = l.length by omega, ← clashTo_succ]
      simp [Place.rows_len]
      refine Wk.weak (ρ := [0]) (φ := []) ?_
      simp [w1]
  · simp
    exact Wk.weak (ρ := []) (φ := [0]) (by simp)
set_option maxHeartbeats 4000000 in
theorem c_l23Clashes (l : List Place) (gap : Int) (hl : placesOk l = true) : HFn Tryz.prog 46 [.sl 5 (Place.rows l), .int .i64 gap] [] (.sl 1 (pairRows (clashTo l gap l.length))) [] := by
  have hlen := places_len hl
  refine hfn_intro hm Tryz.func46 (by kernel_rfl) rfl (by kernel_rfl) rfl (fun _ _ h => h) ?_
  simp
  refine loop_upto hm l.length (fun i => ⟨[(0, .sl 5 (Place.rows l)), (1, .int .i64 gap), (5, .sf 0 1), (6, .int .i64 i)], [some (.arr 1 (pairRows (clashTo l gap i)))]⟩) (fun _ => True) (by kernel_rfl) ?_ trivial (fun i hi _ => ?_) (fun _ => ?_)
  · exact (weak_nil (t := 5) (z := 1) rfl).trans (Wk.weak (ρ := [0]) (φ := []) (by simp [clashTo, pairRows]))
  · have w1 : IntKind.i64.wrap ((i : Int) + 1) = (i : Int) + 1 := w64 (by omega) (by omega)
    have hcl := clashTo_le l gap i
    have hcl2 : i * l.length ≤ 24 * 24 := Nat.mul_le_mul (by omega) hlen
    simp [Place.rows_len, hi]
    refine loop_uptoL hm [9] (l.length - (i + 1)) (fun k => ⟨[(0, .sl 5 (Place.rows l)), (1, .int .i64 gap), (5, .sf 0 1), (6, .int .i64 i), (7, .int .i64 ((i + 1 + k : Nat) : Int))], [some (.arr 1 (pairRows (clashTo l gap i ++ rowTo l gap i (i + 1 + k))))]⟩) (fun _ => True) (by kernel_rfl) ?_ trivial (fun k hk _ => ?_) (fun _ => ?_)
    · refine Wk.weak (ρ := [0]) (φ := []) ?_
      simp [rowTo_start, w1]
    · obtain ⟨j, hj⟩ : ∃ j, j = i + 1 + k := ⟨_, rfl⟩
      have hjl : j < l.length := by omega
      have hij : i < j := by omega
      have ej : i + 1 + (k + 1) = j + 1 := by omega
      have w2 : IntKind.i64.wrap ((j : Int) + 1) = (j : Int) + 1 := w64 (by omega) (by omega)
      have hh := hit_at gap hi hjl
      have hle := rowTo_le l gap i j
      rw [ej, ← hj, rowTo_succ, hh]
      have hle2 : (clashTo l gap i ++ rowTo l gap i j).length ≤ 1000 := by rw [List.length_append]; omega
      rw [show (if (decide (i < j) && decide (clearV l[i] l[j] < gap)) = true then rowTo l gap i j ++ [(i, j)] else rowTo l gap i j) = rowTo l gap i j ++ (if clearV l[i] l[j] < gap then [(i, j)] else []) by by_cases h : clearV l[i] l[j] < gap <;> simp [h, hij], ← List.append_assoc]
      generalize clashTo l gap i ++ rowTo l gap i j = T at hle2 ⊢
      simp [Place.rows_len, hi, hjl]
      refine CallZ.use0 (c_l23Clear l[i] l[j] (Place.rows l) (Place.rows l) i j (by simp [Place.rows, hi]) (by simp [Place.rows, hjl]) (place_at hl hi) (place_at hl hjl)) rfl rfl ?_
      simp
      refine ⟨fun h => ?_, fun h => Wk.weak (ρ := [0]) (φ := []) ?_⟩
      · refine ends_cut 4 (by kernel_rfl) ?_
        simp
        refine ⟨⟨[(0, .sl 5 (Place.rows l)), (1, .int .i64 gap), (5, .sf 0 1), (6, .int .i64 i), (7, .int .i64 j), (32, .sf 0 1), (35, .sl 1 (intRows [(i : Int), (j : Int)]))], [some (.arr 1 (pairRows T))]⟩, Wk.weak (ρ := [0]) (φ := [1]) (by simp [intRows, Place.rows]), ?_⟩
        simp [pairRows_len]
        refine ⟨by simp [rowsOne], by omega, by omega, Wk.weak (ρ := [0]) (φ := []) ?_⟩
        simp [w2, h, pairRows_app, Place.rows]
        simp [pairRows]
      · have h' : ¬ clearV l[i] l[j] < gap := by omega
        simp [w2, h', Place.rows]
    · rw [show i + 1 + (l.length - (i + 1)) = l.length by omega, ← clashTo_succ]
      simp [Place.rows_len]
      refine Wk.weak (ρ := [0]) (φ := []) ?_
      simp [w1]
  · simp [Place.rows_len]
    exact Wk.weak (ρ := []) (φ := [0]) (by simp)

/-! ### Troubles of the places -/
def txMissing : List UInt8 := [109, 105, 115, 115, 105, 110, 103]
def txOutside : List UInt8 := [111, 117, 116, 115, 105, 100, 101]
def bellAt (ps : List Place) (k : Nat) : List UInt8 := match ps[k]? with
  | some p => p.bell
  | none => []
def missAt (ps : List Place) (h : Hung) : List Trouble := if hasId Place.bell ps h.bell = true then [] else [⟨3, h.bell, txMissing⟩]
theorem missAt_le (ps : List Place) (h : Hung) : (missAt ps h).length ≤ 1 := by unfold missAt; split <;> simp
def outT (ps : List Place) (k : Int) : Trouble := ⟨3, bellAt ps k.toNat, txOutside⟩
def clashT (ps : List Place) (x : Nat × Nat) : Trouble := ⟨4, bellAt ps x.1, bellAt ps x.2⟩
def outsL (c : Carillon) : List Int := outTo c.chamber c.places c.gap c.places.length
def clashesL (c : Carillon) : List (Nat × Nat) := clashTo c.places c.gap c.places.length
def roomL (c : Carillon) : List Trouble := upTo (missAt c.places) c.hung c.hung.length ++ (outsL c).map (outT c.places) ++ (clashesL c).map (clashT c.places)
theorem map_take_succ {α β : Type} (f : α → β) (l : List α) {i : Nat} (hi : i < l.length) : (l.take (i + 1)).map f = (l.take i).map f ++ [f l[i]] := by
  rw [← List.take_append_getElem hi, List.map_append]
  rfl
theorem c_roomT1 (p : Place) (h : Hung) (rows : List (List PV)) (i0 : Nat) (hr : rows[i0]? = some h.cells) : HFn Tryz.prog 113 [.agg p.cells, .pe 5 rows i0 0] [] (.bool (decide (p.bell = h.bell))) [] := by
  have hi : i0 < rows.length := (List.getElem?_eq_some_iff.1 hr).1
  have hx0 : rows[i0] = h.cells := (List.getElem?_eq_some_iff.1 hr).2
  rw [Hung.cells] at hr hx0
  refine hfn_intro hm Tryz.func113 (by kernel_rfl) rfl (by kernel_rfl) rfl ret0_ok ?_
  simp [hi, hx0, Place.cells]
theorem pairRows_get (L : List (Nat × Nat)) {i : Nat} (h : i < (pairRows L).length) : (pairRows L)[i] = [.sl 1 (intRows [((L[i]'(by rw [pairRows_len] at h; exact h)).1 : Int), ((L[i]'(by rw [pairRows_len] at h; exact h)).2 : Int)])] := by simp [pairRows]

set_option maxHeartbeats 8000000 in
theorem c_roomTroubles (c : Carillon) (hc : CarOk c) : HFn Tryz.prog 36 [.agg c.cells] [] (.sf 0 3) [trO (roomL c)] := by
  have hl := hc.hl
  have hp := places_len hc.plac
  have hou : ∀ k ∈ outsL c, ∃ j : Nat, k = j ∧ j < c.places.length := fun k hk => outTo_mem hk
  have hcm : ∀ x ∈ clashesL c, x.1 < c.places.length ∧ x.2 < c.places.length := fun x hx => clashTo_mem hx
  have hol : (outsL c).length ≤ 24 := Nat.le_trans (outTo_le _ _ _ _) hp
  have hcl : (clashesL c).length ≤ 576 := Nat.le_trans (clashTo_le _ _ _) (Nat.mul_le_mul hp hp)
  have kO := c_impl_OutsideOf c.chamber c.places c.gap hc.cham hc.plac hc.gap
  have kC := c_clashes c.places c.gap hc.plac
  have eO : outTo c.chamber c.places c.gap c.places.length = outsL c := rfl
  have eC : clashTo c.places c.gap c.places.length = clashesL c := rfl
  rw [eO] at kO
  rw [eC] at kC
  unfold roomL
  generalize outsL c = O at *
  generalize clashesL c = X at *
  simp only [Chamber.cells] at kO
  refine hfn_intro hm Tryz.func36 (by kernel_rfl) rfl (by kernel_rfl) rfl (fun _ _ h => h) ?_
  simp [Carillon.cells, Hung.rows_len]
  refine loop_upto hm c.hung.length (fun i => ⟨[(1, .pb 0 0), (3, .sf 1 3), (13, .sl 5 (Hung.rows c.hung)), (14, .int .i64 c.hung.length), (15, .int .i64 i)], [some (.box c.cells), trO (upTo (missAt c.places) c.hung i)]⟩) (fun _ => True) (by kernel_rfl) ?_ trivial (fun i hi _ => ?_) (fun _ => ?_)
  · exact (weak_nil (t := 3) (z := 3) rfl).trans (Wk.weak (ρ := [0, 1]) (φ := []) (by simp [Carillon.cells, upTo_zero, Trouble.rows]))
  · have w1 : IntKind.i64.wrap ((i : Int) + 1) = (i : Int) + 1 := w64 (by omega) (by omega)
    have hlen := upTo_le (missAt_le c.places) c.hung i
    have kI : HFn Tryz.prog 112 [.sl 5 (Place.rows c.places), .fn 113 [.pe 5 [c.hung[i].cells] 0 0]] [] (.bool (hasId Place.bell c.places c.hung[i].bell)) [] :=
      c_ContainsFuncPlace1 113 5 [c.hung[i].cells] 0 0 (fun b => decide (b.bell = c.hung[i].bell)) c.places (fun b _ => c_roomT1 b c.hung[i] _ 0 rfl) (by omega)
    rw [upTo_succ _ _ hi]
    generalize upTo (missAt c.places) c.hung i = T at hlen ⊢
    simp only [Hung.cells] at kI
    simp [Carillon.cells, Hung.rows, Hung.cells, hi]
    refine CallZ.use0 kI rfl rfl ?_
    simp [Trouble.rows_len]
    refine ⟨fun h => ⟨by simp [rowsOne], by omega, by omega, Wk.weak (ρ := [0, 1]) (φ := []) ?_⟩, fun h => Wk.weak (ρ := [0, 1]) (φ := []) ?_⟩
    · simp [w1, missAt, h, Trouble.rows, Trouble.cells, txMissing]
    · simp [w1, missAt, h]
  · have hlen := upTo_le (missAt_le c.places) c.hung c.hung.length
    generalize upTo (missAt c.places) c.hung c.hung.length = A at hlen ⊢
    simp [Carillon.cells]
    refine CallZ.use kO rfl (.inr ⟨flat_intRows _, trivial⟩) rfl rfl ?_
    simp [intRows_len]
    refine loop_upto hm O.length (fun i => ⟨[(1, .pb 0 0), (3, .sf 1 3), (41, .sf 2 1), (42, .int .i64 O.length), (43, .int .i64 i)], [some (.box c.cells), trO (A ++ (O.take i).map (outT c.places)), some (.arr 1 (intRows O))]⟩) (fun _ => True) (by kernel_rfl) ?_ trivial (fun i hi _ => ?_) (fun _ => ?_)
    · exact Wk.weak (ρ := [0, 1, 2]) (φ := []) (by simp [Carillon.cells])
    · have w1 : IntKind.i64.wrap ((i : Int) + 1) = (i : Int) + 1 := w64 (by omega) (by omega)
      obtain ⟨j, ej, hj⟩ := hou O[i] (List.getElem_mem hi)
      have hTl : (A ++ (O.take i).map (outT c.places)).length ≤ 100 := by rw [List.length_append, List.length_map, List.length_take]; omega
      rw [map_take_succ _ _ hi, ← List.append_assoc, ej]
      generalize A ++ (O.take i).map (outT c.places) = T at hTl ⊢
      have eg : (intRows O)[i]'(by rw [intRows_len]; exact hi) = [.int .i64 j] := by rw [intRows_get, ej]
      simp [Carillon.cells, hi, intRows_len, eg, hj, Place.rows, Place.cells, Trouble.rows_len]
      refine ⟨by simp [rowsOne], by omega, by omega, Wk.weak (ρ := [0, 1, 2]) (φ := []) ?_⟩
      simp [w1, outT, bellAt, hj, Trouble.rows, Trouble.cells, txOutside]
    · have hBl : (A ++ O.map (outT c.places)).length ≤ 100 := by rw [List.length_append, List.length_map]; omega
      rw [List.take_length]
      generalize hB : A ++ O.map (outT c.places) = B at hBl ⊢
      simp [Carillon.cells]
      refine CallZ.use0 kC rfl rfl ?_
      simp [pairRows_len]
      refine loop_upto hm X.length (fun i => ⟨[(1, .pb 0 0), (3, .sf 1 3), (62, .sl 1 (pairRows X)), (63, .int .i64 X.length), (64, .int .i64 i)], [some (.box c.cells), trO (B ++ (X.take i).map (clashT c.places))]⟩) (fun _ => True) (by kernel_rfl) ?_ trivial (fun i hi _ => ?_) (fun _ => ?_)
      · exact Wk.weak (ρ := [0, 1]) (φ := []) (by simp [Carillon.cells])
      · have w1 : IntKind.i64.wrap ((i : Int) + 1) = (i : Int) + 1 := w64 (by omega) (by omega)
        obtain ⟨h1, h2⟩ := hcm X[i] (List.getElem_mem hi)
        have hTl : (B ++ (X.take i).map (clashT c.places)).length ≤ 1000 := by rw [List.length_append, List.length_map, List.length_take]; omega
        rw [map_take_succ _ _ hi, ← List.append_assoc]
        generalize B ++ (X.take i).map (clashT c.places) = T at hTl ⊢
        simp [Carillon.cells, hi, pairRows_len, pairRows_get, intRows, h1, h2, Place.rows, Place.cells, Trouble.rows_len]
        refine ⟨by simp [rowsOne], rfl, by omega, by omega, Wk.weak (ρ := [0, 1]) (φ := []) ?_⟩
        simp [w1, clashT, bellAt, h1, h2, Trouble.rows, Trouble.cells, pairRows]
      · rw [List.take_length]
        subst hB
        simp
        exact Wk.weak (ρ := [1]) (φ := []) (by simp)

end Go.Proofs.YtcjpfjklhhclmaaGreatDoor
