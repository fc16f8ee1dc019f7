/- Contracts: places outside a chamber, places that clash. No condition. -/
import Derived.Test.YtcjpfjklhhclmaaGreatDoorBi
import Derived.Test.YtcjpfjklhhclmaaGreatDoorKe
namespace Go.Proofs.YtcjpfjklhhclmaaGreatDoor
open Go Go.Ab
set_option maxRecDepth 100000
def fitsC (c : Chamber) (p : Place) (gap : Int) : Bool :=
 (decide (IntKind.i64.wrap (p.reach + gap) ≤ p.x) && decide (p.x ≤ IntKind.i64.wrap (c.width - IntKind.i64.wrap (p.reach + gap)))) && (decide (IntKind.i64.wrap (p.reach + gap) ≤ p.y) && decide (p.y ≤ IntKind.i64.wrap (c.length - IntKind.i64.wrap (p.reach + gap)))) && (decide (IntKind.i64.wrap (p.reach + gap) ≤ p.z) && decide (p.z ≤ IntKind.i64.wrap (c.height - IntKind.i64.wrap (p.reach + gap))))
theorem qrm (c : Chamber) (p : Place) (gap : Int) : HFn Tryz.prog 204 [.agg c.cells, .agg p.cells, .int .i64 gap] [] (.bool (fitsC c p gap)) [] := by
 refine qaa hm Tryz.func204 (by kernel_rfl) rfl (by kernel_rfl) rfl qab ?_
 simp [Chamber.cells, Place.cells]
 refine CallZ.use0 (qah _ _ _) rfl rfl ?_
 simp
 repeat refine ⟨by grind, ?_⟩
 refine CallY.use (fun _ => ⟨rfl, qah _ _ _⟩) rfl rfl ?_
 simp
 repeat refine ⟨by grind, ?_⟩
 refine CallY.use (fun _ => ⟨rfl, qah _ _ _⟩) rfl rfl ?_
 simp [fitsC]
theorem qrn (c : Carillon) (tl : List PV) (w : Nat) (rows : List (List PV)) (i0 : Nat) (hr : rows[i0]? = some (c.cells ++ tl)) (p : Place) (rows' : List (List PV)) (j : Nat) (hr' : rows'[j]? = some p.cells) (gap : Int) :
   HFn Tryz.prog 130 [.pe (w + 20) rows i0 4, .pe 5 rows' j 0, .int .i64 gap] [] (.bool (fitsC c.chamber p gap)) [] := by
 have hi : i0 < rows.length := (List.getElem?_eq_some_iff.1 hr).1
 have hx : rows[i0] = c.cells ++ tl := (List.getElem?_eq_some_iff.1 hr).2
 have hj : j < rows'.length := (List.getElem?_eq_some_iff.1 hr').1
 have hy : rows'[j] = p.cells := (List.getElem?_eq_some_iff.1 hr').2
 rw [Carillon.cells] at hr hx
 simp only [List.cons_append, List.nil_append] at hr hx
 rw [Place.cells] at hr' hy
 refine qaa hm Tryz.func130 (by kernel_rfl) rfl (by kernel_rfl) rfl qab ?_
 simp [hi, hx, hj, hy]
 refine CallZ.use0 (qaj _ _ _) rfl rfl ?_
 simp [hi, hx, hj, hy]
 repeat refine ⟨by grind, ?_⟩
 refine CallY.use (fun _ => ⟨rfl, qaj _ _ _⟩) rfl rfl ?_
 simp [hi, hx, hj, hy]
 repeat refine ⟨by grind, ?_⟩
 refine CallY.use (fun _ => ⟨rfl, qaj _ _ _⟩) rfl rfl ?_
 simp [fitsC]
def outTo (c : Chamber) (l : List Place) (gap : Int) (i : Nat) : List Int := ((List.range i).filter fun j => match l[j]? with
 | some p => !fitsC c p gap
 | none => false).map fun (j : Nat) => (j : Int)
theorem qkV (c : Chamber) (l : List Place) (gap : Int) {i : Nat} (hi : i < l.length) : outTo c l gap (i + 1) = if fitsC c l[i] gap = true then outTo c l gap i else outTo c l gap i ++ [(i : Int)] := by
 unfold outTo
 rw [List.range_succ, List.filter_append, List.map_append]
 cases h : fitsC c l[i] gap <;> simp [hi, h]
theorem qeU (c : Chamber) (l : List Place) (gap : Int) (i : Nat) : (outTo c l gap i).length ≤ i := by
 unfold outTo
 rw [List.length_map]
 exact Nat.le_trans (List.length_filter_le _ _) (by simp)
theorem qkW {c : Chamber} {l : List Place} {gap : Int} {i : Nat} {k : Int} (h : k ∈ outTo c l gap i) : ∃ j : Nat, k = j ∧ j < l.length := by
 unfold outTo at h
 obtain ⟨j, hj, rfl⟩ := List.mem_map.1 h
 rw [List.mem_filter] at hj
 refine ⟨j, rfl, ?_⟩
 by_cases hl : j < l.length
 · exact hl
 · have := hj.2
   rw [List.getElem?_eq_none (by omega)] at this
   simp at this
theorem qeo {l : List Place} (h : qbu l = true) : l.length ≤ 24 := by
 simp only [qbu, Bool.and_eq_true, decide_eq_true_eq] at h
 omega
set_option maxHeartbeats 2000000 in
theorem qro (c : Chamber) (l : List Place) (gap : Int) (hc : qdM c = true) (hl : qbu l = true) (hg : 0 ≤ gap ∧ gap ≤ 5000) :
   HFn Tryz.prog 114 [.agg c.cells, .sl 5 (Place.rows l), .int .i64 gap] [] (.tup [.sf 0 1, .int .i64 0]) [some (.arr 1 (qad (outTo c l gap l.length)))] := by
 have hlen := qeo hl
 have kC := qjC c
 have kF := fun p => qrm c p gap
 simp only [Chamber.cells, Place.cells] at kC kF
 refine qaa hm Tryz.func114 (by kernel_rfl) rfl (by kernel_rfl) rfl (fun _ _ h => h) ?_
 simp [Chamber.cells]
 refine CallZ.use0 kC rfl rfl ?_
 simp [hc]
 first | refine CallZ.use0 (qgQ l (by omega)) rfl rfl ?_ | refine CallY.use (fun _ => ⟨rfl, qgQ l (by omega)⟩) rfl rfl ?_
 simp [hl]
 refine CallZ.use0 (qjA gap) rfl rfl ?_
 simp [hg]
 refine qac hm l.length (fun i => ⟨[(2, .int .i64 gap), (3, .pb 0 0), (8, .sf 1 1), (24, .sl 5 (Place.rows l)), (25, .int .i64 l.length), (26, .int .i64 i)], [some (.box [.int .i64 c.width, .int .i64 c.length, .int .i64 c.height]), some (.arr 1 (qad (outTo c l gap i)))]⟩) (fun _ => True) (by kernel_rfl) ?_ trivial (fun i hi _ => ?_) (fun _ => ?_)
 · exact (qaI (t := 8) (z := 1) rfl).trans (Wk.weak (ρ := [0, 1]) (φ := []) (by simp [outTo, qad, Place.rows_len]))
 · have w1 : IntKind.i64.wrap ((i : Int) + 1) = (i : Int) + 1 := w64 (by omega) (by omega)
   have hle := qeU c l gap i
   rw [qkV c l gap hi]
   generalize outTo c l gap i = T at hle ⊢
   simp [Place.rows, Place.cells, hi]
   refine CallZ.use0 (kF l[i]) rfl rfl ?_
   simp [qar]
   refine ⟨fun h => ⟨by simp [rowsOne], by omega, by omega, Wk.weak (ρ := [0, 1]) (φ := []) ?_⟩, fun h => Wk.weak (ρ := [0, 1]) (φ := []) ?_⟩
   · simp [w1, h, qcv]
     rfl
   · simp [w1, h]
 · simp
   exact Wk.weak (ρ := [1]) (φ := []) (by simp)
set_option maxHeartbeats 2000000 in
theorem qrp (c : Carillon) (tl : List PV) (w : Nat) (rows : List (List PV)) (i0 : Nat) (hr : rows[i0]? = some (c.cells ++ tl)) (l : List Place) (gap : Int) (hlen : l.length ≤ 24) :
   HFn Tryz.prog 45 [.pe (w + 20) rows i0 4, .sl 5 (Place.rows l), .int .i64 gap] [] (.sf 0 1) [some (.arr 1 (qad (outTo c.chamber l gap l.length)))] := by
 refine qaa hm Tryz.func45 (by kernel_rfl) rfl (by kernel_rfl) rfl (fun _ _ h => h) ?_
 simp
 refine qac hm l.length (fun i => ⟨[(0, .pe (w + 20) rows i0 4), (1, .sl 5 (Place.rows l)), (2, .int .i64 gap), (7, .sf 0 1), (8, .int .i64 i)], [some (.arr 1 (qad (outTo c.chamber l gap i)))]⟩) (fun _ => True) (by kernel_rfl) ?_ trivial (fun i hi _ => ?_) (fun _ => ?_)
 · exact (qaI (t := 7) (z := 1) rfl).trans (Wk.weak (ρ := [0]) (φ := []) (by simp [outTo, qad]))
 · have w1 : IntKind.i64.wrap ((i : Int) + 1) = (i : Int) + 1 := w64 (by omega) (by omega)
   have hle := qeU c.chamber l gap i
   rw [qkV c.chamber l gap hi]
   generalize outTo c.chamber l gap i = T at hle ⊢
   simp [Place.rows, hi]
   refine CallZ.use0 (qrn c tl w rows i0 hr l[i] _ i (by simp [hi]) gap) rfl rfl ?_
   simp [qar]
   refine ⟨fun h => ⟨by simp [rowsOne], by omega, by omega, Wk.weak (ρ := [0]) (φ := []) ?_⟩, fun h => Wk.weak (ρ := [0]) (φ := []) ?_⟩
   · simp [w1, h, qcv]
     rfl
   · simp [w1, h]
 · simp [Place.rows_len]
   exact Wk.weak (ρ := [0]) (φ := []) (by simp)
def qbZ (a b : Place) : Int := (a.x - b.x) * (a.x - b.x) + (a.y - b.y) * (a.y - b.y) + (a.z - b.z) * (a.z - b.z)
def qbH (a b : Place) : Int := IntKind.i64.wrap (IntKind.i64.wrap (rootV (qbZ a b) - a.reach) - b.reach)
theorem sq_le {d M : Int} (h1 : -M ≤ d) (h2 : d ≤ M) : 0 ≤ d * d ∧ d * d ≤ M * M := by
 refine ⟨sq_nn d, ?_⟩
 have h := Int.mul_nonneg (show 0 ≤ M - d by omega) (show 0 ≤ M + d by omega)
 have e : (M - d) * (M + d) = M * M - d * d := by grind
 omega
theorem qfY {p : Place} (h : qa7 p = true) : (0 ≤ p.x ∧ p.x ≤ 20000) ∧ (0 ≤ p.y ∧ p.y ≤ 20000) ∧ (0 ≤ p.z ∧ p.z ≤ 20000) := by
 simp only [qa7, Bool.and_eq_true, decide_eq_true_eq] at h
 omega
theorem qrq (a b : Place) (ha : qa7 a = true) (hb : qa7 b = true) : HFn Tryz.prog 205 [.agg a.cells, .agg b.cells] [] (.int .i64 (qbH a b)) [] := by
 obtain ⟨⟨a1, a2⟩, ⟨a3, a4⟩, a5, a6⟩ := qfY ha
 obtain ⟨⟨b1, b2⟩, ⟨b3, b4⟩, b5, b6⟩ := qfY hb
 have wx : IntKind.i64.wrap (a.x - b.x) = a.x - b.x := w64 (by omega) (by omega)
 have wy : IntKind.i64.wrap (a.y - b.y) = a.y - b.y := w64 (by omega) (by omega)
 have wz : IntKind.i64.wrap (a.z - b.z) = a.z - b.z := w64 (by omega) (by omega)
 obtain ⟨x1, x2⟩ := sq_le (d := a.x - b.x) (M := 20000) (by omega) (by omega)
 obtain ⟨y1, y2⟩ := sq_le (d := a.y - b.y) (M := 20000) (by omega) (by omega)
 obtain ⟨z1, z2⟩ := sq_le (d := a.z - b.z) (M := 20000) (by omega) (by omega)
 have wxx : IntKind.i64.wrap ((a.x - b.x) * (a.x - b.x)) = (a.x - b.x) * (a.x - b.x) := w64 (by omega) (by omega)
 have wyy : IntKind.i64.wrap ((a.y - b.y) * (a.y - b.y)) = (a.y - b.y) * (a.y - b.y) := w64 (by omega) (by omega)
 have wzz : IntKind.i64.wrap ((a.z - b.z) * (a.z - b.z)) = (a.z - b.z) * (a.z - b.z) := w64 (by omega) (by omega)
 have w1 : IntKind.i64.wrap ((a.x - b.x) * (a.x - b.x) + (a.y - b.y) * (a.y - b.y)) = (a.x - b.x) * (a.x - b.x) + (a.y - b.y) * (a.y - b.y) := w64 (by omega) (by omega)
 have w2 : IntKind.i64.wrap ((a.x - b.x) * (a.x - b.x) + (a.y - b.y) * (a.y - b.y) + (a.z - b.z) * (a.z - b.z)) = (a.x - b.x) * (a.x - b.x) + (a.y - b.y) * (a.y - b.y) + (a.z - b.z) * (a.z - b.z) := w64 (by omega) (by omega)
 have kr := qgG (qbZ a b) ⟨by unfold qbZ; omega, by unfold qbZ; omega⟩ (by unfold qbZ; omega)
 rw [qbZ] at kr
 refine qaa hm Tryz.func205 (by kernel_rfl) rfl (by kernel_rfl) rfl qab ?_
 simp [Place.cells, wx, wy, wz, wxx, wyy, wzz, w1, w2]
 refine CallZ.use0 kr rfl rfl ?_
 simp [qbH, qbZ]
theorem qrr (a b : Place) (ra rb : List (List PV)) (i j : Nat) (h1 : ra[i]? = some a.cells) (h2 : rb[j]? = some b.cells) (ha : qa7 a = true) (hb : qa7 b = true) : HFn Tryz.prog 131 [.pe 5 ra i 0, .pe 5 rb j 0] [] (.int .i64 (qbH a b)) [] := by
 obtain ⟨⟨a1, a2⟩, ⟨a3, a4⟩, a5, a6⟩ := qfY ha
 obtain ⟨⟨b1, b2⟩, ⟨b3, b4⟩, b5, b6⟩ := qfY hb
 have wx : IntKind.i64.wrap (a.x - b.x) = a.x - b.x := w64 (by omega) (by omega)
 have wy : IntKind.i64.wrap (a.y - b.y) = a.y - b.y := w64 (by omega) (by omega)
 have wz : IntKind.i64.wrap (a.z - b.z) = a.z - b.z := w64 (by omega) (by omega)
 obtain ⟨x1, x2⟩ := sq_le (d := a.x - b.x) (M := 20000) (by omega) (by omega)
 obtain ⟨y1, y2⟩ := sq_le (d := a.y - b.y) (M := 20000) (by omega) (by omega)
 obtain ⟨z1, z2⟩ := sq_le (d := a.z - b.z) (M := 20000) (by omega) (by omega)
 have wxx : IntKind.i64.wrap ((a.x - b.x) * (a.x - b.x)) = (a.x - b.x) * (a.x - b.x) := w64 (by omega) (by omega)
 have wyy : IntKind.i64.wrap ((a.y - b.y) * (a.y - b.y)) = (a.y - b.y) * (a.y - b.y) := w64 (by omega) (by omega)
 have wzz : IntKind.i64.wrap ((a.z - b.z) * (a.z - b.z)) = (a.z - b.z) * (a.z - b.z) := w64 (by omega) (by omega)
 have w1 : IntKind.i64.wrap ((a.x - b.x) * (a.x - b.x) + (a.y - b.y) * (a.y - b.y)) = (a.x - b.x) * (a.x - b.x) + (a.y - b.y) * (a.y - b.y) := w64 (by omega) (by omega)
 have w2 : IntKind.i64.wrap ((a.x - b.x) * (a.x - b.x) + (a.y - b.y) * (a.y - b.y) + (a.z - b.z) * (a.z - b.z)) = (a.x - b.x) * (a.x - b.x) + (a.y - b.y) * (a.y - b.y) + (a.z - b.z) * (a.z - b.z) := w64 (by omega) (by omega)
 have kr := qgH (qbZ a b) ⟨by unfold qbZ; omega, by unfold qbZ; omega⟩ (by unfold qbZ; omega)
 rw [qbZ] at kr
 have hia : i < ra.length := (List.getElem?_eq_some_iff.1 h1).1
 have hjb : j < rb.length := (List.getElem?_eq_some_iff.1 h2).1
 have ga : ra[i] = a.cells := (List.getElem?_eq_some_iff.1 h1).2
 have gb : rb[j] = b.cells := (List.getElem?_eq_some_iff.1 h2).2
 rw [Place.cells] at h1 h2 ga gb
 refine qaa hm Tryz.func131 (by kernel_rfl) rfl (by kernel_rfl) rfl qab ?_
 simp [hia, hjb, ga, gb, wx, wy, wz, wxx, wyy, wzz, w1, w2]
 refine CallZ.use0 kr rfl rfl ?_
 simp [hia, hjb, ga, gb, qbH, qbZ]
def hitB (l : List Place) (gap : Int) (i j : Nat) : Bool := match l[i]?, l[j]? with
 | some a, some b => decide (qbH a b < gap)
 | _, _ => false
def rowTo (l : List Place) (gap : Int) (i j : Nat) : List (Nat × Nat) := ((List.range j).filter fun k => decide (i < k) && hitB l gap i k).map fun k => (i, k)
def qaX (l : List Place) (gap : Int) (i : Nat) : List (Nat × Nat) := ((List.range i).map fun a => rowTo l gap a l.length).flatten
def qaN (L : List (Nat × Nat)) : List (List PV) := L.map fun x => [.sl 1 (qad [(x.1 : Int), (x.2 : Int)])]
theorem qdv (L : List (Nat × Nat)) : (qaN L).length = L.length := by simp [qaN]
theorem qkX (L M : List (Nat × Nat)) : qaN (L ++ M) = qaN L ++ qaN M := by simp [qaN]
theorem qkY (l : List Place) (gap : Int) (i j : Nat) : rowTo l gap i (j + 1) = if (decide (i < j) && hitB l gap i j) = true then rowTo l gap i j ++ [(i, j)] else rowTo l gap i j := by
 unfold rowTo
 rw [List.range_succ, List.filter_append, List.map_append]
 cases h : (decide (i < j) && hitB l gap i j) <;> simp [h]
theorem qkZ (l : List Place) (gap : Int) (i : Nat) : rowTo l gap i (i + 1) = [] := by
 unfold rowTo
 rw [List.map_eq_nil_iff, List.filter_eq_nil_iff]
 intro k hk
 have := List.mem_range.1 hk
 have h : ¬ i < k := by omega
 simp [h]
theorem qha (l : List Place) (gap : Int) (i j : Nat) : (rowTo l gap i j).length ≤ j := by
 unfold rowTo
 rw [List.length_map]
 exact Nat.le_trans (List.length_filter_le _ _) (by simp)
theorem qhb (l : List Place) (gap : Int) (i : Nat) : qaX l gap (i + 1) = qaX l gap i ++ rowTo l gap i l.length := by
 unfold qaX
 rw [List.range_succ]
 simp
theorem qeV (l : List Place) (gap : Int) (i : Nat) : (qaX l gap i).length ≤ i * l.length := by
 induction i with
 | zero => simp [qaX]
 | succ i ih =>
   rw [qhb, List.length_append, Nat.add_mul]
   have := qha l gap i l.length
   omega
theorem qrs {l : List Place} {gap : Int} {i j : Nat} {x : Nat × Nat} (h : x ∈ rowTo l gap i j) : x.1 < l.length ∧ x.2 < l.length := by
 unfold rowTo at h
 obtain ⟨k, hk, rfl⟩ := List.mem_map.1 h
 rw [List.mem_filter, Bool.and_eq_true] at hk
 have h2 := hk.2.2
 unfold hitB at h2
 by_cases h3 : i < l.length
 · by_cases h4 : k < l.length
   · exact ⟨h3, h4⟩
   · rw [List.getElem?_eq_none (by omega : l.length ≤ k)] at h2
     split at h2
     · rename_i hh; cases hh
     · cases h2
 · rw [List.getElem?_eq_none (by omega : l.length ≤ i)] at h2
   split at h2
   · rename_i hh _; cases hh
   · cases h2
theorem qk0 {l : List Place} {gap : Int} {i : Nat} {x : Nat × Nat} (h : x ∈ qaX l gap i) : x.1 < l.length ∧ x.2 < l.length := by
 unfold qaX at h
 obtain ⟨r, hr, hx⟩ := List.mem_flatten.1 h
 obtain ⟨a, _, rfl⟩ := List.mem_map.1 hr
 exact qrs hx
theorem qk1 {l : List Place} (gap : Int) {i j : Nat} (hi : i < l.length) (hj : j < l.length) : hitB l gap i j = decide (qbH l[i] l[j] < gap) := by simp [hitB, hi, hj]
theorem qfZ {l : List Place} (h : qbu l = true) {i : Nat} (hi : i < l.length) : qa7 l[i] = true := by
 simp only [qbu, Bool.and_eq_true] at h
 exact qc1 h.1 _ (List.getElem_mem hi)
set_option maxHeartbeats 4000000 in
theorem qrt (l : List Place) (gap : Int) (hl : qbu l = true) : HFn Tryz.prog 115 [.sl 5 (Place.rows l), .int .i64 gap] [] (.sl 1 (qaN (qaX l gap l.length))) [] := by
 have hlen := qeo hl
 refine qaa hm Tryz.func115 (by kernel_rfl) rfl (by kernel_rfl) rfl (fun _ _ h => h) ?_
 simp [Place.rows_len]
 refine qac hm l.length (fun i => ⟨[(0, .sl 5 (Place.rows l)), (1, .int .i64 gap), (5, .sf 0 1), (9, .int .i64 l.length), (10, .int .i64 i)], [some (.arr 1 (qaN (qaX l gap i)))]⟩) (fun _ => True) (by kernel_rfl) ?_ trivial (fun i hi _ => ?_) (fun _ => ?_)
 · exact (qaI (t := 5) (z := 1) rfl).trans (Wk.weak (ρ := [0]) (φ := []) (by simp [qaX, qaN]))
 · have w1 : IntKind.i64.wrap ((i : Int) + 1) = (i : Int) + 1 := w64 (by omega) (by omega)
   have hcl := qeV l gap i
   have hcl2 : i * l.length ≤ 24 * 24 := Nat.mul_le_mul (by omega) hlen
   simp [hi]
   refine qi1 hm [9] (l.length - (i + 1)) (fun k => ⟨[(0, .sl 5 (Place.rows l)), (1, .int .i64 gap), (5, .sf 0 1), (6, .int .i64 i), (7, .int .i64 ((i + 1 + k : Nat) : Int)), (9, .int .i64 l.length), (10, .int .i64 i)], [some (.arr 1 (qaN (qaX l gap i ++ rowTo l gap i (i + 1 + k))))]⟩) (fun _ => True) (by kernel_rfl) ?_ trivial (fun k hk _ => ?_) (fun _ => ?_)
   · refine Wk.weak (ρ := [0]) (φ := []) ?_
     simp [qkZ, w1]
   · obtain ⟨j, hj⟩ : ∃ j, j = i + 1 + k := ⟨_, rfl⟩
     have hjl : j < l.length := by omega
     have hij : i < j := by omega
     have ej : i + 1 + (k + 1) = j + 1 := by omega
     have w2 : IntKind.i64.wrap ((j : Int) + 1) = (j : Int) + 1 := w64 (by omega) (by omega)
     have hh := qk1 gap hi hjl
     have hle := qha l gap i j
     rw [ej, ← hj, qkY, hh]
     have hle2 : (qaX l gap i ++ rowTo l gap i j).length ≤ 1000 := by rw [List.length_append]; omega
     rw [show (if (decide (i < j) && decide (qbH l[i] l[j] < gap)) = true then rowTo l gap i j ++ [(i, j)] else rowTo l gap i j) = rowTo l gap i j ++ (if qbH l[i] l[j] < gap then [(i, j)] else []) by by_cases h : qbH l[i] l[j] < gap <;> simp [h, hij], ← List.append_assoc]
     generalize qaX l gap i ++ rowTo l gap i j = T at hle2 ⊢
     have kc := qrq l[i] l[j] (qfZ hl hi) (qfZ hl hjl)
     simp only [Place.cells] at kc
     simp [Place.rows, Place.cells, hi, hjl]
     refine CallZ.use0 kc rfl rfl ?_
     simp
     refine ⟨fun h => ?_, fun h => Wk.weak (ρ := [0]) (φ := []) ?_⟩
     · refine qi0 4 (by kernel_rfl) ?_
       simp
       refine ⟨⟨[(0, .sl 5 (Place.rows l)), (1, .int .i64 gap), (5, .sf 0 1), (6, .int .i64 i), (7, .int .i64 j), (9, .int .i64 l.length), (10, .int .i64 i), (32, .sf 0 1), (35, .sl 1 (qad [(i : Int), (j : Int)]))], [some (.arr 1 (qaN T))]⟩, Wk.weak (ρ := [0]) (φ := [1]) (by simp [qad, Place.rows]), ?_⟩
       simp [qdv]
       refine ⟨by simp [rowsOne], by omega, by omega, Wk.weak (ρ := [0]) (φ := []) ?_⟩
       simp [w2, h, qkX, Place.rows]
       simp [qaN]
     · have h' : ¬ qbH l[i] l[j] < gap := by omega
       simp [w2, h']
   · rw [show i + 1 + (l.length - (i + 1)) = l.length by omega, ← qhb]
     simp [Place.rows_len]
     refine Wk.weak (ρ := [0]) (φ := []) ?_
     simp [w1]
 · simp
   exact Wk.weak (ρ := []) (φ := [0]) (by simp)
set_option maxHeartbeats 4000000 in
theorem qru (l : List Place) (gap : Int) (hl : qbu l = true) : HFn Tryz.prog 46 [.sl 5 (Place.rows l), .int .i64 gap] [] (.sl 1 (qaN (qaX l gap l.length))) [] := by
 have hlen := qeo hl
 refine qaa hm Tryz.func46 (by kernel_rfl) rfl (by kernel_rfl) rfl (fun _ _ h => h) ?_
 simp
 refine qac hm l.length (fun i => ⟨[(0, .sl 5 (Place.rows l)), (1, .int .i64 gap), (5, .sf 0 1), (6, .int .i64 i)], [some (.arr 1 (qaN (qaX l gap i)))]⟩) (fun _ => True) (by kernel_rfl) ?_ trivial (fun i hi _ => ?_) (fun _ => ?_)
 · exact (qaI (t := 5) (z := 1) rfl).trans (Wk.weak (ρ := [0]) (φ := []) (by simp [qaX, qaN]))
 · have w1 : IntKind.i64.wrap ((i : Int) + 1) = (i : Int) + 1 := w64 (by omega) (by omega)
   have hcl := qeV l gap i
   have hcl2 : i * l.length ≤ 24 * 24 := Nat.mul_le_mul (by omega) hlen
   simp [Place.rows_len, hi]
   refine qi1 hm [9] (l.length - (i + 1)) (fun k => ⟨[(0, .sl 5 (Place.rows l)), (1, .int .i64 gap), (5, .sf 0 1), (6, .int .i64 i), (7, .int .i64 ((i + 1 + k : Nat) : Int))], [some (.arr 1 (qaN (qaX l gap i ++ rowTo l gap i (i + 1 + k))))]⟩) (fun _ => True) (by kernel_rfl) ?_ trivial (fun k hk _ => ?_) (fun _ => ?_)
   · refine Wk.weak (ρ := [0]) (φ := []) ?_
     simp [qkZ, w1]
   · obtain ⟨j, hj⟩ : ∃ j, j = i + 1 + k := ⟨_, rfl⟩
     have hjl : j < l.length := by omega
     have hij : i < j := by omega
     have ej : i + 1 + (k + 1) = j + 1 := by omega
     have w2 : IntKind.i64.wrap ((j : Int) + 1) = (j : Int) + 1 := w64 (by omega) (by omega)
     have hh := qk1 gap hi hjl
     have hle := qha l gap i j
     rw [ej, ← hj, qkY, hh]
     have hle2 : (qaX l gap i ++ rowTo l gap i j).length ≤ 1000 := by rw [List.length_append]; omega
     rw [show (if (decide (i < j) && decide (qbH l[i] l[j] < gap)) = true then rowTo l gap i j ++ [(i, j)] else rowTo l gap i j) = rowTo l gap i j ++ (if qbH l[i] l[j] < gap then [(i, j)] else []) by by_cases h : qbH l[i] l[j] < gap <;> simp [h, hij], ← List.append_assoc]
     generalize qaX l gap i ++ rowTo l gap i j = T at hle2 ⊢
     simp [Place.rows_len, hi, hjl]
     refine CallZ.use0 (qrr l[i] l[j] (Place.rows l) (Place.rows l) i j (by simp [Place.rows, hi]) (by simp [Place.rows, hjl]) (qfZ hl hi) (qfZ hl hjl)) rfl rfl ?_
     simp
     refine ⟨fun h => ?_, fun h => Wk.weak (ρ := [0]) (φ := []) ?_⟩
     · refine qi0 4 (by kernel_rfl) ?_
       simp
       refine ⟨⟨[(0, .sl 5 (Place.rows l)), (1, .int .i64 gap), (5, .sf 0 1), (6, .int .i64 i), (7, .int .i64 j), (32, .sf 0 1), (35, .sl 1 (qad [(i : Int), (j : Int)]))], [some (.arr 1 (qaN T))]⟩, Wk.weak (ρ := [0]) (φ := [1]) (by simp [qad, Place.rows]), ?_⟩
       simp [qdv]
       refine ⟨by simp [rowsOne], by omega, by omega, Wk.weak (ρ := [0]) (φ := []) ?_⟩
       simp [w2, h, qkX, Place.rows]
       simp [qaN]
     · have h' : ¬ qbH l[i] l[j] < gap := by omega
       simp [w2, h', Place.rows]
   · rw [show i + 1 + (l.length - (i + 1)) = l.length by omega, ← qhb]
     simp [Place.rows_len]
     refine Wk.weak (ρ := [0]) (φ := []) ?_
     simp [w1]
 · simp [Place.rows_len]
   exact Wk.weak (ρ := []) (φ := [0]) (by simp)
def qhc : List UInt8 := [109, 105, 115, 115, 105, 110, 103]
def qhd : List UInt8 := [111, 117, 116, 115, 105, 100, 101]
def qdS (ps : List Place) (k : Nat) : List UInt8 := match ps[k]? with
 | some p => p.bell
 | none => []
def qb0 (ps : List Place) (h : Hung) : List Trouble := if hasId Place.bell ps h.bell = true then [] else [⟨3, h.bell, qhc⟩]
theorem qeW (ps : List Place) (h : Hung) : (qb0 ps h).length ≤ 1 := by unfold qb0; split <;> simp
def outT (ps : List Place) (k : Int) : Trouble := ⟨3, qdS ps k.toNat, qhd⟩
def qc5 (ps : List Place) (x : Nat × Nat) : Trouble := ⟨4, qdS ps x.1, qdS ps x.2⟩
def outsL (c : Carillon) : List Int := outTo c.chamber c.places c.gap c.places.length
def qcN (c : Carillon) : List (Nat × Nat) := qaX c.places c.gap c.places.length
def roomL (c : Carillon) : List Trouble := upTo (qb0 c.places) c.hung c.hung.length ++ (outsL c).map (outT c.places) ++ (qcN c).map (qc5 c.places)
theorem qf0 {α β : Type} (f : α → β) (l : List α) {i : Nat} (hi : i < l.length) : (l.take (i + 1)).map f = (l.take i).map f ++ [f l[i]] := by
 rw [← List.take_append_getElem hi, List.map_append]
 rfl
theorem qrv (p : Place) (h : Hung) (rows : List (List PV)) (i0 : Nat) (hr : rows[i0]? = some h.cells) : HFn Tryz.prog 113 [.agg p.cells, .pe 5 rows i0 0] [] (.bool (decide (p.bell = h.bell))) [] := by
 have hi : i0 < rows.length := (List.getElem?_eq_some_iff.1 hr).1
 have hx0 : rows[i0] = h.cells := (List.getElem?_eq_some_iff.1 hr).2
 rw [Hung.cells] at hr hx0
 refine qaa hm Tryz.func113 (by kernel_rfl) rfl (by kernel_rfl) rfl qab ?_
 simp [hi, hx0, Place.cells]
theorem qk2 (L : List (Nat × Nat)) {i : Nat} (h : i < (qaN L).length) : (qaN L)[i] = [.sl 1 (qad [((L[i]'(by rw [qdv] at h; exact h)).1 : Int), ((L[i]'(by rw [qdv] at h; exact h)).2 : Int)])] := by simp [qaN]
set_option maxHeartbeats 8000000 in
theorem qrw (c : Carillon) (hc : CarOk c) : HFn Tryz.prog 36 [.agg c.cells] [] (.sf 0 3) [trO (roomL c)] := by
 have hl := hc.hl
 have hp := qeo hc.plac
 have hou : ∀ k ∈ outsL c, ∃ j : Nat, k = j ∧ j < c.places.length := fun k hk => qkW hk
 have hcm : ∀ x ∈ qcN c, x.1 < c.places.length ∧ x.2 < c.places.length := fun x hx => qk0 hx
 have hol : (outsL c).length ≤ 24 := Nat.le_trans (qeU _ _ _ _) hp
 have hcl : (qcN c).length ≤ 576 := Nat.le_trans (qeV _ _ _) (Nat.mul_le_mul hp hp)
 have kO := qro c.chamber c.places c.gap hc.cham hc.plac hc.gap
 have kC := qrt c.places c.gap hc.plac
 have eO : outTo c.chamber c.places c.gap c.places.length = outsL c := rfl
 have eC : qaX c.places c.gap c.places.length = qcN c := rfl
 rw [eO] at kO
 rw [eC] at kC
 unfold roomL
 generalize outsL c = O at *
 generalize qcN c = X at *
 simp only [Chamber.cells] at kO
 refine qaa hm Tryz.func36 (by kernel_rfl) rfl (by kernel_rfl) rfl (fun _ _ h => h) ?_
 simp [Carillon.cells, Hung.rows_len]
 refine qac hm c.hung.length (fun i => ⟨[(1, .pb 0 0), (3, .sf 1 3), (13, .sl 5 (Hung.rows c.hung)), (14, .int .i64 c.hung.length), (15, .int .i64 i)], [some (.box c.cells), trO (upTo (qb0 c.places) c.hung i)]⟩) (fun _ => True) (by kernel_rfl) ?_ trivial (fun i hi _ => ?_) (fun _ => ?_)
 · exact (qaI (t := 3) (z := 3) rfl).trans (Wk.weak (ρ := [0, 1]) (φ := []) (by simp [Carillon.cells, qbG, Trouble.rows]))
 · have w1 : IntKind.i64.wrap ((i : Int) + 1) = (i : Int) + 1 := w64 (by omega) (by omega)
   have hlen := qcL (qeW c.places) c.hung i
   have kI : HFn Tryz.prog 112 [.sl 5 (Place.rows c.places), .fn 113 [.pe 5 [c.hung[i].cells] 0 0]] [] (.bool (hasId Place.bell c.places c.hung[i].bell)) [] :=
     qpc 113 5 [c.hung[i].cells] 0 0 (fun b => decide (b.bell = c.hung[i].bell)) c.places (fun b _ => qrv b c.hung[i] _ 0 rfl) (by omega)
   rw [qbx _ _ hi]
   generalize upTo (qb0 c.places) c.hung i = T at hlen ⊢
   simp only [Hung.cells] at kI
   simp [Carillon.cells, Hung.rows, Hung.cells, hi]
   refine CallZ.use0 kI rfl rfl ?_
   simp [Trouble.rows_len]
   refine ⟨fun h => ⟨by simp [rowsOne], by omega, by omega, Wk.weak (ρ := [0, 1]) (φ := []) ?_⟩, fun h => Wk.weak (ρ := [0, 1]) (φ := []) ?_⟩
   · simp [w1, qb0, h, Trouble.rows, Trouble.cells, qhc]
   · simp [w1, qb0, h]
 · have hlen := qcL (qeW c.places) c.hung c.hung.length
   generalize upTo (qb0 c.places) c.hung c.hung.length = A at hlen ⊢
   simp [Carillon.cells]
   refine CallZ.use kO rfl (.inr ⟨qcm _, trivial⟩) rfl rfl ?_
   simp [qar]
   refine qac hm O.length (fun i => ⟨[(1, .pb 0 0), (3, .sf 1 3), (41, .sf 2 1), (42, .int .i64 O.length), (43, .int .i64 i)], [some (.box c.cells), trO (A ++ (O.take i).map (outT c.places)), some (.arr 1 (qad O))]⟩) (fun _ => True) (by kernel_rfl) ?_ trivial (fun i hi _ => ?_) (fun _ => ?_)
   · exact Wk.weak (ρ := [0, 1, 2]) (φ := []) (by simp [Carillon.cells])
   · have w1 : IntKind.i64.wrap ((i : Int) + 1) = (i : Int) + 1 := w64 (by omega) (by omega)
     obtain ⟨j, ej, hj⟩ := hou O[i] (List.getElem_mem hi)
     have hTl : (A ++ (O.take i).map (outT c.places)).length ≤ 100 := by rw [List.length_append, List.length_map, List.length_take]; omega
     rw [qf0 _ _ hi, ← List.append_assoc, ej]
     generalize A ++ (O.take i).map (outT c.places) = T at hTl ⊢
     have eg : (qad O)[i]'(by rw [qar]; exact hi) = [.int .i64 j] := by rw [qcf, ej]
     simp [Carillon.cells, hi, qar, eg, hj, Place.rows, Place.cells, Trouble.rows_len]
     refine ⟨by simp [rowsOne], by omega, by omega, Wk.weak (ρ := [0, 1, 2]) (φ := []) ?_⟩
     simp [w1, outT, qdS, hj, Trouble.rows, Trouble.cells, qhd]
   · have hBl : (A ++ O.map (outT c.places)).length ≤ 100 := by rw [List.length_append, List.length_map]; omega
     rw [List.take_length]
     generalize hB : A ++ O.map (outT c.places) = B at hBl ⊢
     simp [Carillon.cells]
     refine CallZ.use0 kC rfl rfl ?_
     simp [qdv]
     refine qac hm X.length (fun i => ⟨[(1, .pb 0 0), (3, .sf 1 3), (62, .sl 1 (qaN X)), (63, .int .i64 X.length), (64, .int .i64 i)], [some (.box c.cells), trO (B ++ (X.take i).map (qc5 c.places))]⟩) (fun _ => True) (by kernel_rfl) ?_ trivial (fun i hi _ => ?_) (fun _ => ?_)
     · exact Wk.weak (ρ := [0, 1]) (φ := []) (by simp [Carillon.cells])
     · have w1 : IntKind.i64.wrap ((i : Int) + 1) = (i : Int) + 1 := w64 (by omega) (by omega)
       obtain ⟨h1, h2⟩ := hcm X[i] (List.getElem_mem hi)
       have hTl : (B ++ (X.take i).map (qc5 c.places)).length ≤ 1000 := by rw [List.length_append, List.length_map, List.length_take]; omega
       rw [qf0 _ _ hi, ← List.append_assoc]
       generalize B ++ (X.take i).map (qc5 c.places) = T at hTl ⊢
       simp [Carillon.cells, hi, qdv, qk2, qad, h1, h2, Place.rows, Place.cells, Trouble.rows_len]
       refine ⟨by simp [rowsOne], rfl, by omega, by omega, Wk.weak (ρ := [0, 1]) (φ := []) ?_⟩
       simp [w1, qc5, qdS, h1, h2, Trouble.rows, Trouble.cells, qaN]
     · rw [List.take_length]
       subst hB
       simp
       exact Wk.weak (ρ := [1]) (φ := []) (by simp)
theorem qrx (c : Carillon) (tl : List PV) (w : Nat) (rows : List (List PV)) (i0 : Nat) (hr : rows[i0]? = some (c.cells ++ tl)) (s : List UInt8) (hb : c.places.length ≤ 1048576) : HFn Tryz.prog 239 [.pe (w + 20) rows i0 0, .str s] [] (.bool (hasId Place.bell c.places s)) [] := by
 have hi : i0 < rows.length := (List.getElem?_eq_some_iff.1 hr).1
 have hx : rows[i0] = c.cells ++ tl := (List.getElem?_eq_some_iff.1 hr).2
 rw [Carillon.cells] at hr hx
 simp only [List.cons_append, List.nil_append] at hr hx
 refine qaa hm Tryz.func239 (by kernel_rfl) rfl (by kernel_rfl) rfl qab ?_
 simp
 refine qac hm c.places.length (fun i => ⟨[(0, .pe (w + 20) rows i0 0), (1, .str s), (5, .int .i64 i)], []⟩) (fun i => ∀ j (h : j < c.places.length), j < i → ¬ c.places[j].bell = s) (by kernel_rfl) ?_ (by simp) (fun i hi' hI => ?_) (fun hI => ?_)
 · exact Wk.weak (ρ := []) (φ := []) (by simp)
 · have w1 : IntKind.i64.wrap ((i : Int) + 1) = (i : Int) + 1 := w64 (by omega) (by omega)
   simp [hi, hx, Place.rows, Place.cells, hi']
   refine ⟨fun h => List.any_eq_true.2 ⟨_, List.getElem_mem hi', by simpa using h⟩, fun h => ⟨qbX hi' hI h, Wk.weak (ρ := []) (φ := []) ?_⟩⟩
   simp [w1]
 · simp [hi, hx, Place.rows_len]
   rw [hasId, List.any_eq_false]
   intro y hy
   obtain ⟨j, hj, rfl⟩ := List.getElem_of_mem hy
   simpa using hI j hj hj
set_option maxHeartbeats 8000000 in
theorem qry (c : Carillon) (tl : List PV) (w : Nat) (rows : List (List PV)) (i0 : Nat) (hr : rows[i0]? = some (c.cells ++ tl)) (hc : CarOk c) : HFn Tryz.prog 156 [.pe (w + 20) rows i0 0] [] (.sf 0 3) [trO (roomL c)] := by
 have hl := hc.hl
 have hp := qeo hc.plac
 have hou : ∀ k ∈ outsL c, ∃ j : Nat, k = j ∧ j < c.places.length := fun k hk => qkW hk
 have hcm : ∀ x ∈ qcN c, x.1 < c.places.length ∧ x.2 < c.places.length := fun x hx => qk0 hx
 have hol : (outsL c).length ≤ 24 := Nat.le_trans (qeU _ _ _ _) hp
 have hcl : (qcN c).length ≤ 576 := Nat.le_trans (qeV _ _ _) (Nat.mul_le_mul hp hp)
 have kO := qrp c tl w rows i0 hr c.places c.gap hp
 have kC := qru c.places c.gap hc.plac
 have kP := fun s => qrx c tl w rows i0 hr s (by omega)
 have eO : outTo c.chamber c.places c.gap c.places.length = outsL c := rfl
 have eC : qaX c.places c.gap c.places.length = qcN c := rfl
 rw [eO] at kO
 rw [eC] at kC
 unfold roomL
 generalize outsL c = O at *
 generalize qcN c = X at *
 have hi : i0 < rows.length := (List.getElem?_eq_some_iff.1 hr).1
 have hx : rows[i0] = c.cells ++ tl := (List.getElem?_eq_some_iff.1 hr).2
 rw [Carillon.cells] at hr hx
 simp only [List.cons_append, List.nil_append] at hr hx
 refine qaa hm Tryz.func156 (by kernel_rfl) rfl (by kernel_rfl) rfl (fun _ _ h => h) ?_
 simp
 refine qac hm c.hung.length (fun i => ⟨[(0, .pe (w + 20) rows i0 0), (3, .sf 0 3), (4, .int .i64 i)], [trO (upTo (qb0 c.places) c.hung i)]⟩) (fun _ => True) (by kernel_rfl) ?_ trivial (fun i hi' _ => ?_) (fun _ => ?_)
 · exact (qaI (t := 3) (z := 3) rfl).trans (Wk.weak (ρ := [0]) (φ := []) (by simp [qbG, Trouble.rows]))
 · have w1 : IntKind.i64.wrap ((i : Int) + 1) = (i : Int) + 1 := w64 (by omega) (by omega)
   have hlen := qcL (qeW c.places) c.hung i
   rw [qbx _ _ hi']
   generalize upTo (qb0 c.places) c.hung i = T at hlen ⊢
   simp [hi, hx, Hung.rows, Hung.cells, hi']
   refine CallZ.use0 (kP c.hung[i].bell) rfl rfl ?_
   simp [hi, hx, Hung.rows, Hung.cells, hi', Trouble.rows_len]
   refine ⟨fun h => ⟨by simp [rowsOne], by omega, by omega, Wk.weak (ρ := [0]) (φ := []) ?_⟩, fun h => Wk.weak (ρ := [0]) (φ := []) ?_⟩
   · simp [w1, qb0, h, Trouble.rows, Trouble.cells, qhc]
   · simp [w1, qb0, h]
 · have hlen := qcL (qeW c.places) c.hung c.hung.length
   generalize upTo (qb0 c.places) c.hung c.hung.length = A at hlen ⊢
   simp [hi, hx, Hung.rows_len]
   refine CallZ.use kO rfl (.inr ⟨qcm _, trivial⟩) rfl rfl ?_
   simp
   refine qac hm O.length (fun i => ⟨[(0, .pe (w + 20) rows i0 0), (3, .sf 0 3), (5, .sf 1 1), (6, .int .i64 i)], [trO (A ++ (O.take i).map (outT c.places)), some (.arr 1 (qad O))]⟩) (fun _ => True) (by kernel_rfl) ?_ trivial (fun i hi' _ => ?_) (fun _ => ?_)
   · exact Wk.weak (ρ := [0, 1]) (φ := []) (by simp)
   · have w1 : IntKind.i64.wrap ((i : Int) + 1) = (i : Int) + 1 := w64 (by omega) (by omega)
     obtain ⟨j, ej, hj⟩ := hou O[i] (List.getElem_mem hi')
     have hTl : (A ++ (O.take i).map (outT c.places)).length ≤ 100 := by rw [List.length_append, List.length_map, List.length_take]; omega
     rw [qf0 _ _ hi', ← List.append_assoc, ej]
     generalize A ++ (O.take i).map (outT c.places) = T at hTl ⊢
     have eg : (qad O)[i]'(by rw [qar]; exact hi') = [.int .i64 j] := by rw [qcf, ej]
     simp [hi, hx, hi', qar, eg, hj, Place.rows, Place.cells, Trouble.rows_len]
     refine ⟨by simp [rowsOne], rfl, by omega, by omega, Wk.weak (ρ := [0, 1]) (φ := []) ?_⟩
     simp [w1, outT, qdS, hj, Trouble.rows, Trouble.cells, qhd]
   · have hBl : (A ++ O.map (outT c.places)).length ≤ 100 := by rw [List.length_append, List.length_map]; omega
     rw [List.take_length]
     generalize hB : A ++ O.map (outT c.places) = B at hBl ⊢
     simp [hi, hx, qar]
     refine CallZ.use0 kC rfl rfl ?_
     simp
     refine qac hm X.length (fun i => ⟨[(0, .pe (w + 20) rows i0 0), (3, .sf 0 3), (7, .sl 1 (qaN X)), (8, .int .i64 i)], [trO (B ++ (X.take i).map (qc5 c.places))]⟩) (fun _ => True) (by kernel_rfl) ?_ trivial (fun i hi' _ => ?_) (fun _ => ?_)
     · exact Wk.weak (ρ := [0]) (φ := []) (by simp)
     · have w1 : IntKind.i64.wrap ((i : Int) + 1) = (i : Int) + 1 := w64 (by omega) (by omega)
       obtain ⟨h1, h2⟩ := hcm X[i] (List.getElem_mem hi')
       have hTl : (B ++ (X.take i).map (qc5 c.places)).length ≤ 1000 := by rw [List.length_append, List.length_map, List.length_take]; omega
       rw [qf0 _ _ hi', ← List.append_assoc]
       generalize B ++ (X.take i).map (qc5 c.places) = T at hTl ⊢
       simp [hi, hx, hi', qdv, qk2, qad, h1, h2, Place.rows, Place.cells, Trouble.rows_len]
       refine ⟨by simp [rowsOne], rfl, by omega, by omega, Wk.weak (ρ := [0]) (φ := []) ?_⟩
       simp [w1, qc5, qdS, h1, h2, Trouble.rows, Trouble.cells]
     · rw [List.take_length]
       subst hB
       simp [qdv]
       exact Wk.weak (ρ := [0]) (φ := []) (by simp)
end Go.Proofs.YtcjpfjklhhclmaaGreatDoor
