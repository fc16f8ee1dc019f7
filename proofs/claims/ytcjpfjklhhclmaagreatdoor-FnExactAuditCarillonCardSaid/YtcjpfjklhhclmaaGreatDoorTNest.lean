/- The types Melt, Bell, Beam, Action, Tune, Carillon as plain data, and what the functions of package laws do with them. No condition. -/
import Derived.Test.YtcjpfjklhhclmaaGreatDoorXs
import Derived.Test.YtcjpfjklhhclmaaGreatDoorTFlat
import Derived.Test.YtcjpfjklhhclmaaGreatDoorTTone
namespace Go.Proofs.YtcjpfjklhhclmaaGreatDoor
open Go Go.Ab
set_option maxRecDepth 100000
structure Melt where
 id : List UInt8
 ingots : List (List UInt8)
 mass : Int
theorem Melt.eq_iff {a b : Melt} : a = b ↔ a.id = b.id ∧ a.ingots = b.ingots ∧ a.mass = b.mass := by cases a; cases b; simp
instance : DecidableEq Melt := fun _ _ => decidable_of_iff _ Melt.eq_iff.symm
def Melt.cells (x : Melt) : List PV := [.str x.id, .sl 1 (qag x.ingots), .int .i64 x.mass]
def Melt.rows (l : List Melt) : List (List PV) := l.map Melt.cells
def Melt.sz (x : Melt) : Nat := x.id.length + qcG x.ingots
def Melt.szS (l : List Melt) : Nat := l.length + (l.map Melt.sz).sum
structure Melt.wf (x : Melt) : Prop where
 id : x.id.length ≤ 9223372036854775807
 ingots : (x.ingots.length ≤ 9223372036854775807 ∧ ∀ y ∈ x.ingots, y.length ≤ 9223372036854775807)
 mass : I64 x.mass
theorem Melt.rows_len (l : List Melt) : (Melt.rows l).length = l.length := by simp [Melt.rows]
theorem Melt.row_get (l : List Melt) {i : Nat} (h : i < (Melt.rows l).length) : (Melt.rows l)[i] = (l[i]'(by rw [Melt.rows_len] at h; exact h)).cells := by simp [Melt.rows]
theorem Melt.fits {cs : List PV} (h : fitsL [.str, .slc [.str], .int .i64] cs) : ∃ x : Melt, cs = x.cells ∧ x.wf := by
 obtain ⟨_, _, rfl, h0, h⟩ := qak h
 obtain ⟨_, _, rfl, h1, h⟩ := qak h
 obtain ⟨_, _, rfl, h2, h⟩ := qak h
 obtain rfl := qbV h
 obtain ⟨v0, rfl, w0⟩ := qcF h0
 obtain ⟨r1, rfl, l1, f1⟩ := qb6 h1
 obtain ⟨v1, rfl, w1⟩ := qmA f1
 rw [qaG] at l1
 obtain ⟨v2, rfl, w2⟩ := qan h2
 exact ⟨⟨v0, v1, v2⟩, rfl, ⟨w0, ⟨l1, w1⟩, lit64 w2⟩⟩
theorem Melt.fitsS {rows : List (List PV)} (h : ∀ r ∈ rows, fitsL [.str, .slc [.str], .int .i64] r) : ∃ l : List Melt, rows = Melt.rows l ∧ ∀ x ∈ l, x.wf := qbR fun r hr => Melt.fits (h r hr)
theorem qnw (x : Melt) (left : Nat) (hl : left ≤ 1048576) (hx : x.wf) : HFn Tryz.prog 148 [.agg x.cells, .int .i64 left] [] (.int .i64 (szR x.sz left)) [] := by
 refine qaa hm Tryz.func148 (by kernel_rfl) rfl (by kernel_rfl) rfl qab ?_
 simp [Melt.cells]
 have w0 := hx.id
 rw [w64 (n := (left : Int) - x.id.length) (by omega) (by omega)]
 refine ⟨fun h => by rw [qam (by unfold Melt.sz; omega)], fun h0 => ?_⟩
 rw [show (left : Int) - x.id.length = ((left - x.id.length : Nat) : Int) by omega]
 have k1 := qmB x.ingots (left - x.id.length) (by omega) hx.ingots.1 hx.ingots.2
 refine CallZ.use0 k1 rfl rfl ?_
 simp
 refine ⟨fun h => ?_, fun h => ?_⟩
 · have := qaU h
   rw [qam (by unfold Melt.sz; omega)]
 have h1 := qaQ h
 rw [qal h1]
 rw [qal (by unfold Melt.sz; omega)]
 unfold Melt.sz
 omega
theorem qnx (l : List Melt) (left : Nat) (hl : left ≤ 1048576) (hlen : l.length ≤ 9223372036854775807) (hx : ∀ x ∈ l, x.wf) : HFn Tryz.prog 57 [.sl 3 (Melt.rows l), .int .i64 left] [] (.int .i64 (szR (Melt.szS l) left)) [] := by
 refine qaa hm Tryz.func57 (by kernel_rfl) rfl (by kernel_rfl) rfl qab ?_
 simp [Melt.rows_len]
 rw [w64 (n := (left : Int) - l.length) (by omega) (by omega)]
 refine ⟨fun h => by rw [qam (by unfold Melt.szS; omega)], fun h => ?_⟩
 refine qac hm l.length (fun i => ⟨[(0, .sl 3 (Melt.rows l)), (1, .int .i64 (left - l.length - sumT Melt.sz l i)), (5, .int .i64 i)], []⟩) (fun i => l.length + sumT Melt.sz l i ≤ left) (by kernel_rfl) ?_ (by rw [qaV]; omega) (fun i hi hI => ?_) (fun hI => ?_)
 · exact Wk.weak (ρ := []) (φ := []) (by simp [qaV])
 · have es := qbT Melt.sz hi
   have hle := qbU Melt.sz l (i + 1)
   have e1 : (left : Int) - l.length - sumT Melt.sz l i = ((left - l.length - sumT Melt.sz l i : Nat) : Int) := by omega
   rw [e1]
   simp [Melt.rows_len, Melt.row_get, hi]
   refine CallZ.use0 (qnw l[i] _ (by omega) (hx _ (List.getElem_mem hi))) rfl rfl ?_
   simp
   refine ⟨fun h => ?_, fun h => ?_⟩
   · have := qaU h
     rw [qam (by unfold Melt.szS; omega)]
   · have hh := qaQ h
     refine ⟨by omega, ?_⟩
     refine Wk.weak (ρ := []) (φ := []) ?_
     simp
     rw [w64 (by omega) (by omega), qal hh]
     omega
 · simp [Melt.rows_len]
   rw [qbS] at hI ⊢
   rw [qal (by unfold Melt.szS; omega)]
   unfold Melt.szS
   omega
theorem qny (x : Melt) (h : x.sz ≤ 1048576) : HFn Tryz.prog 160 [.agg x.cells] [] (.agg x.cells) [] := by
 unfold Melt.sz at h
 refine qaa hm Tryz.func160 (by kernel_rfl) rfl (by kernel_rfl) rfl qab ?_
 simp [Melt.cells]
 have k1 := qmC x.ingots (by unfold qcG at h; omega)
 refine CallZ.use0 k1 rfl rfl ?_
 simp
theorem qnz (l : List Melt) (h : Melt.szS l ≤ 1048576) : HFn Tryz.prog 67 [.sl 3 (Melt.rows l)] [] (.sl 3 (Melt.rows l)) [] := by
 have hl : l.length ≤ 1048576 := by unfold Melt.szS at h; omega
 have hs : ∀ x ∈ l, x.sz ≤ 1048576 := fun x hx => by
   have := qb8 Melt.sz hx
   unfold Melt.szS at h
   omega
 refine qaa hm Tryz.func67 (by kernel_rfl) rfl (by kernel_rfl) rfl (fun _ _ h => h) ?_
 simp [Melt.rows]
 refine ⟨by omega, by omega, .inr ?_⟩
 refine qac hm l.length (fun i => ⟨[(0, .sl 3 (Melt.rows l)), (3, .sf 0 3), (4, .int .i64 i)], [some (.arr 3 ((l.take i).map Melt.cells ++ List.replicate (l.length - i) [.str [], .nils, .int .i64 0]))]⟩) (fun _ => True) (by kernel_rfl) ?_ trivial (fun i hi _ => ?_) (fun _ => ?_)
 · exact Wk.weak (ρ := [0]) (φ := []) (by simp [Melt.rows])
 · obtain ⟨X, hX, hXl, hXg⟩ := qbq Melt.cells l [.str [], .nils, .int .i64 0] hi
   rw [hX]
   have ea := List.getElem?_eq_getElem hi
   simp [Melt.rows, hi]
   refine CallZ.use0 (qny _ (hs _ (List.getElem_mem hi))) rfl rfl ?_
   simp [Melt.cells, hi, hXl, hXg]
   refine Wk.weak (ρ := [0]) (φ := []) ?_
   simp
   rw [w64 (by omega) (by omega), ← hX]
   exact ⟨rfl, qbQ Melt.cells l [.str [], .nils, .int .i64 0] hi⟩
 · simp [Melt.rows]
   exact Wk.weak (ρ := []) (φ := [0]) (by simp)
theorem qnA (a : Melt) (h : a.wf) : HFn Tryz.prog 168 [.agg a.cells, .agg a.cells] [] (.bool true) [] := by
 refine qaa hm Tryz.func168 (by kernel_rfl) rfl (by kernel_rfl) rfl qab ?_
 simp [Melt.cells]
 have k1 := qmy a.ingots a.ingots h.ingots.1
 refine CallZ.use0 k1 rfl rfl ?_
 simp
theorem qnB (a : List Melt) (ha : a.length ≤ 9223372036854775807) (h : ∀ x ∈ a, x.wf) : HFn Tryz.prog 78 [.sl 3 (Melt.rows a), .sl 3 (Melt.rows a)] [] (.bool true) [] := by
 refine qaa hm Tryz.func78 (by kernel_rfl) rfl (by kernel_rfl) rfl qab ?_
 simp [Melt.rows_len]
 refine qac hm a.length (fun i => ⟨[(0, .sl 3 (Melt.rows a)), (1, .sl 3 (Melt.rows a)), (5, .int .i64 i)], []⟩) (fun _ => True) (by kernel_rfl) ?_ trivial (fun i hi _ => ?_) (fun _ => ?_)
 · exact Wk.weak (ρ := []) (φ := []) (by simp)
 · simp [Melt.rows_len, Melt.row_get, hi]
   refine CallZ.use0 (qnA a[i] (h _ (List.getElem_mem hi))) rfl rfl ?_
   simp
   refine Wk.weak (ρ := []) (φ := []) ?_
   simp
   exact w64 (by omega) (by omega)
 · simp [Melt.rows_len]
end Go.Proofs.YtcjpfjklhhclmaaGreatDoor
namespace Go.Proofs.YtcjpfjklhhclmaaGreatDoor
open Go Go.Ab
set_option maxRecDepth 100000
structure Bell where
 id : List UInt8
 note : Int
 mass : Int
 feed : Int
 shares : List Share
theorem Bell.eq_iff {a b : Bell} : a = b ↔ a.id = b.id ∧ a.note = b.note ∧ a.mass = b.mass ∧ a.feed = b.feed ∧ a.shares = b.shares := by cases a; cases b; simp
instance : DecidableEq Bell := fun _ _ => decidable_of_iff _ Bell.eq_iff.symm
def Bell.cells (x : Bell) : List PV := [.str x.id, .int .i64 x.note, .int .i64 x.mass, .int .i64 x.feed, .sl 2 (Share.rows x.shares)]
def Bell.rows (l : List Bell) : List (List PV) := l.map Bell.cells
def Bell.sz (x : Bell) : Nat := x.id.length + Share.szS x.shares
def Bell.szS (l : List Bell) : Nat := l.length + (l.map Bell.sz).sum
structure Bell.wf (x : Bell) : Prop where
 id : x.id.length ≤ 9223372036854775807
 note : I64 x.note
 mass : I64 x.mass
 feed : I64 x.feed
 shares : (x.shares.length ≤ 9223372036854775807 ∧ ∀ y ∈ x.shares, y.wf)
theorem Bell.rows_len (l : List Bell) : (Bell.rows l).length = l.length := by simp [Bell.rows]
theorem Bell.row_get (l : List Bell) {i : Nat} (h : i < (Bell.rows l).length) : (Bell.rows l)[i] = (l[i]'(by rw [Bell.rows_len] at h; exact h)).cells := by simp [Bell.rows]
theorem Bell.fits {cs : List PV} (h : fitsL [.str, .int .i64, .int .i64, .int .i64, .slc [.str, .int .i64]] cs) : ∃ x : Bell, cs = x.cells ∧ x.wf := by
 obtain ⟨_, _, rfl, h0, h⟩ := qak h
 obtain ⟨_, _, rfl, h1, h⟩ := qak h
 obtain ⟨_, _, rfl, h2, h⟩ := qak h
 obtain ⟨_, _, rfl, h3, h⟩ := qak h
 obtain ⟨_, _, rfl, h4, h⟩ := qak h
 obtain rfl := qbV h
 obtain ⟨v0, rfl, w0⟩ := qcF h0
 obtain ⟨v1, rfl, w1⟩ := qan h1
 obtain ⟨v2, rfl, w2⟩ := qan h2
 obtain ⟨v3, rfl, w3⟩ := qan h3
 obtain ⟨r4, rfl, l4, f4⟩ := qb6 h4
 obtain ⟨v4, rfl, w4⟩ := Share.fitsS f4
 rw [Share.rows_len] at l4
 exact ⟨⟨v0, v1, v2, v3, v4⟩, rfl, ⟨w0, lit64 w1, lit64 w2, lit64 w3, ⟨l4, w4⟩⟩⟩
theorem Bell.fitsS {rows : List (List PV)} (h : ∀ r ∈ rows, fitsL [.str, .int .i64, .int .i64, .int .i64, .slc [.str, .int .i64]] r) : ∃ l : List Bell, rows = Bell.rows l ∧ ∀ x ∈ l, x.wf := qbR fun r hr => Bell.fits (h r hr)
theorem qnC (x : Bell) (left : Nat) (hl : left ≤ 1048576) (hx : x.wf) : HFn Tryz.prog 149 [.agg x.cells, .int .i64 left] [] (.int .i64 (szR x.sz left)) [] := by
 refine qaa hm Tryz.func149 (by kernel_rfl) rfl (by kernel_rfl) rfl qab ?_
 simp [Bell.cells]
 have w0 := hx.id
 rw [w64 (n := (left : Int) - x.id.length) (by omega) (by omega)]
 refine ⟨fun h => by rw [qam (by unfold Bell.sz; omega)], fun h0 => ?_⟩
 rw [show (left : Int) - x.id.length = ((left - x.id.length : Nat) : Int) by omega]
 have k1 := qm6 x.shares (left - x.id.length) (by omega) hx.shares.1 hx.shares.2
 refine CallZ.use0 k1 rfl rfl ?_
 simp
 refine ⟨fun h => ?_, fun h => ?_⟩
 · have := qaU h
   rw [qam (by unfold Bell.sz; omega)]
 have h1 := qaQ h
 rw [qal h1]
 rw [qal (by unfold Bell.sz; omega)]
 unfold Bell.sz
 omega
theorem qnD (l : List Bell) (left : Nat) (hl : left ≤ 1048576) (hlen : l.length ≤ 9223372036854775807) (hx : ∀ x ∈ l, x.wf) : HFn Tryz.prog 58 [.sl 5 (Bell.rows l), .int .i64 left] [] (.int .i64 (szR (Bell.szS l) left)) [] := by
 refine qaa hm Tryz.func58 (by kernel_rfl) rfl (by kernel_rfl) rfl qab ?_
 simp [Bell.rows_len]
 rw [w64 (n := (left : Int) - l.length) (by omega) (by omega)]
 refine ⟨fun h => by rw [qam (by unfold Bell.szS; omega)], fun h => ?_⟩
 refine qac hm l.length (fun i => ⟨[(0, .sl 5 (Bell.rows l)), (1, .int .i64 (left - l.length - sumT Bell.sz l i)), (5, .int .i64 i)], []⟩) (fun i => l.length + sumT Bell.sz l i ≤ left) (by kernel_rfl) ?_ (by rw [qaV]; omega) (fun i hi hI => ?_) (fun hI => ?_)
 · exact Wk.weak (ρ := []) (φ := []) (by simp [qaV])
 · have es := qbT Bell.sz hi
   have hle := qbU Bell.sz l (i + 1)
   have e1 : (left : Int) - l.length - sumT Bell.sz l i = ((left - l.length - sumT Bell.sz l i : Nat) : Int) := by omega
   rw [e1]
   simp [Bell.rows_len, Bell.row_get, hi]
   refine CallZ.use0 (qnC l[i] _ (by omega) (hx _ (List.getElem_mem hi))) rfl rfl ?_
   simp
   refine ⟨fun h => ?_, fun h => ?_⟩
   · have := qaU h
     rw [qam (by unfold Bell.szS; omega)]
   · have hh := qaQ h
     refine ⟨by omega, ?_⟩
     refine Wk.weak (ρ := []) (φ := []) ?_
     simp
     rw [w64 (by omega) (by omega), qal hh]
     omega
 · simp [Bell.rows_len]
   rw [qbS] at hI ⊢
   rw [qal (by unfold Bell.szS; omega)]
   unfold Bell.szS
   omega
theorem qnE (x : Bell) (h : x.sz ≤ 1048576) : HFn Tryz.prog 161 [.agg x.cells] [] (.agg x.cells) [] := by
 unfold Bell.sz at h
 refine qaa hm Tryz.func161 (by kernel_rfl) rfl (by kernel_rfl) rfl qab ?_
 simp [Bell.cells]
 have k4 := qm8 x.shares (by unfold Share.szS at h; omega)
 refine CallZ.use0 k4 rfl rfl ?_
 simp
theorem qnF (l : List Bell) (h : Bell.szS l ≤ 1048576) : HFn Tryz.prog 68 [.sl 5 (Bell.rows l)] [] (.sl 5 (Bell.rows l)) [] := by
 have hl : l.length ≤ 1048576 := by unfold Bell.szS at h; omega
 have hs : ∀ x ∈ l, x.sz ≤ 1048576 := fun x hx => by
   have := qb8 Bell.sz hx
   unfold Bell.szS at h
   omega
 refine qaa hm Tryz.func68 (by kernel_rfl) rfl (by kernel_rfl) rfl (fun _ _ h => h) ?_
 simp [Bell.rows]
 refine ⟨by omega, by omega, .inr ?_⟩
 refine qac hm l.length (fun i => ⟨[(0, .sl 5 (Bell.rows l)), (3, .sf 0 5), (4, .int .i64 i)], [some (.arr 5 ((l.take i).map Bell.cells ++ List.replicate (l.length - i) [.str [], .int .i64 0, .int .i64 0, .int .i64 0, .nils]))]⟩) (fun _ => True) (by kernel_rfl) ?_ trivial (fun i hi _ => ?_) (fun _ => ?_)
 · exact Wk.weak (ρ := [0]) (φ := []) (by simp [Bell.rows])
 · obtain ⟨X, hX, hXl, hXg⟩ := qbq Bell.cells l [.str [], .int .i64 0, .int .i64 0, .int .i64 0, .nils] hi
   rw [hX]
   have ea := List.getElem?_eq_getElem hi
   simp [Bell.rows, hi]
   refine CallZ.use0 (qnE _ (hs _ (List.getElem_mem hi))) rfl rfl ?_
   simp [Bell.cells, hi, hXl, hXg]
   refine Wk.weak (ρ := [0]) (φ := []) ?_
   simp
   rw [w64 (by omega) (by omega), ← hX]
   exact ⟨rfl, qbQ Bell.cells l [.str [], .int .i64 0, .int .i64 0, .int .i64 0, .nils] hi⟩
 · simp [Bell.rows]
   exact Wk.weak (ρ := []) (φ := [0]) (by simp)
theorem qnG (a : Bell) (h : a.wf) : HFn Tryz.prog 169 [.agg a.cells, .agg a.cells] [] (.bool true) [] := by
 refine qaa hm Tryz.func169 (by kernel_rfl) rfl (by kernel_rfl) rfl qab ?_
 simp [Bell.cells]
 have k4 := qna a.shares a.shares h.shares.1
 refine CallZ.use0 k4 rfl rfl ?_
 simp
theorem qnH (a : List Bell) (ha : a.length ≤ 9223372036854775807) (h : ∀ x ∈ a, x.wf) : HFn Tryz.prog 79 [.sl 5 (Bell.rows a), .sl 5 (Bell.rows a)] [] (.bool true) [] := by
 refine qaa hm Tryz.func79 (by kernel_rfl) rfl (by kernel_rfl) rfl qab ?_
 simp [Bell.rows_len]
 refine qac hm a.length (fun i => ⟨[(0, .sl 5 (Bell.rows a)), (1, .sl 5 (Bell.rows a)), (5, .int .i64 i)], []⟩) (fun _ => True) (by kernel_rfl) ?_ trivial (fun i hi _ => ?_) (fun _ => ?_)
 · exact Wk.weak (ρ := []) (φ := []) (by simp)
 · simp [Bell.rows_len, Bell.row_get, hi]
   refine CallZ.use0 (qnG a[i] (h _ (List.getElem_mem hi))) rfl rfl ?_
   simp
   refine Wk.weak (ρ := []) (φ := []) ?_
   simp
   exact w64 (by omega) (by omega)
 · simp [Bell.rows_len]
end Go.Proofs.YtcjpfjklhhclmaaGreatDoor
namespace Go.Proofs.YtcjpfjklhhclmaaGreatDoor
open Go Go.Ab
set_option maxRecDepth 100000
structure Beam where
 name : List UInt8
 span : Int
 width : Int
 depth : Int
 wood : Int
 loads : List Load
theorem Beam.eq_iff {a b : Beam} : a = b ↔ a.name = b.name ∧ a.span = b.span ∧ a.width = b.width ∧ a.depth = b.depth ∧ a.wood = b.wood ∧ a.loads = b.loads := by cases a; cases b; simp
instance : DecidableEq Beam := fun _ _ => decidable_of_iff _ Beam.eq_iff.symm
def Beam.cells (x : Beam) : List PV := [.str x.name, .int .i64 x.span, .int .i64 x.width, .int .i64 x.depth, .int .i64 x.wood, .sl 2 (Load.rows x.loads)]
def Beam.rows (l : List Beam) : List (List PV) := l.map Beam.cells
def Beam.sz (x : Beam) : Nat := x.name.length + Load.szS x.loads
def Beam.szS (l : List Beam) : Nat := l.length + (l.map Beam.sz).sum
structure Beam.wf (x : Beam) : Prop where
 name : x.name.length ≤ 9223372036854775807
 span : I64 x.span
 width : I64 x.width
 depth : I64 x.depth
 wood : I64 x.wood
 loads : (x.loads.length ≤ 9223372036854775807 ∧ ∀ y ∈ x.loads, y.wf)
theorem Beam.rows_len (l : List Beam) : (Beam.rows l).length = l.length := by simp [Beam.rows]
theorem Beam.row_get (l : List Beam) {i : Nat} (h : i < (Beam.rows l).length) : (Beam.rows l)[i] = (l[i]'(by rw [Beam.rows_len] at h; exact h)).cells := by simp [Beam.rows]
theorem Beam.fits {cs : List PV} (h : fitsL [.str, .int .i64, .int .i64, .int .i64, .int .i64, .slc [.int .i64, .int .i64]] cs) : ∃ x : Beam, cs = x.cells ∧ x.wf := by
 obtain ⟨_, _, rfl, h0, h⟩ := qak h
 obtain ⟨_, _, rfl, h1, h⟩ := qak h
 obtain ⟨_, _, rfl, h2, h⟩ := qak h
 obtain ⟨_, _, rfl, h3, h⟩ := qak h
 obtain ⟨_, _, rfl, h4, h⟩ := qak h
 obtain ⟨_, _, rfl, h5, h⟩ := qak h
 obtain rfl := qbV h
 obtain ⟨v0, rfl, w0⟩ := qcF h0
 obtain ⟨v1, rfl, w1⟩ := qan h1
 obtain ⟨v2, rfl, w2⟩ := qan h2
 obtain ⟨v3, rfl, w3⟩ := qan h3
 obtain ⟨v4, rfl, w4⟩ := qan h4
 obtain ⟨r5, rfl, l5, f5⟩ := qb6 h5
 obtain ⟨v5, rfl, w5⟩ := Load.fitsS f5
 rw [Load.rows_len] at l5
 exact ⟨⟨v0, v1, v2, v3, v4, v5⟩, rfl, ⟨w0, lit64 w1, lit64 w2, lit64 w3, lit64 w4, ⟨l5, w5⟩⟩⟩
theorem Beam.fitsS {rows : List (List PV)} (h : ∀ r ∈ rows, fitsL [.str, .int .i64, .int .i64, .int .i64, .int .i64, .slc [.int .i64, .int .i64]] r) : ∃ l : List Beam, rows = Beam.rows l ∧ ∀ x ∈ l, x.wf := qbR fun r hr => Beam.fits (h r hr)
theorem qnI (x : Beam) (left : Nat) (hl : left ≤ 1048576) (hx : x.wf) : HFn Tryz.prog 152 [.agg x.cells, .int .i64 left] [] (.int .i64 (szR x.sz left)) [] := by
 refine qaa hm Tryz.func152 (by kernel_rfl) rfl (by kernel_rfl) rfl qab ?_
 simp [Beam.cells]
 have w0 := hx.name
 rw [w64 (n := (left : Int) - x.name.length) (by omega) (by omega)]
 refine ⟨fun h => by rw [qam (by unfold Beam.sz; omega)], fun h0 => ?_⟩
 rw [show (left : Int) - x.name.length = ((left - x.name.length : Nat) : Int) by omega]
 have k1 := qnc x.loads (left - x.name.length) (by omega) hx.loads.1 hx.loads.2
 refine CallZ.use0 k1 rfl rfl ?_
 simp
 refine ⟨fun h => ?_, fun h => ?_⟩
 · have := qaU h
   rw [qam (by unfold Beam.sz; omega)]
 have h1 := qaQ h
 rw [qal h1]
 rw [qal (by unfold Beam.sz; omega)]
 unfold Beam.sz
 omega
theorem qnJ (l : List Beam) (left : Nat) (hl : left ≤ 1048576) (hlen : l.length ≤ 9223372036854775807) (hx : ∀ x ∈ l, x.wf) : HFn Tryz.prog 62 [.sl 6 (Beam.rows l), .int .i64 left] [] (.int .i64 (szR (Beam.szS l) left)) [] := by
 refine qaa hm Tryz.func62 (by kernel_rfl) rfl (by kernel_rfl) rfl qab ?_
 simp [Beam.rows_len]
 rw [w64 (n := (left : Int) - l.length) (by omega) (by omega)]
 refine ⟨fun h => by rw [qam (by unfold Beam.szS; omega)], fun h => ?_⟩
 refine qac hm l.length (fun i => ⟨[(0, .sl 6 (Beam.rows l)), (1, .int .i64 (left - l.length - sumT Beam.sz l i)), (5, .int .i64 i)], []⟩) (fun i => l.length + sumT Beam.sz l i ≤ left) (by kernel_rfl) ?_ (by rw [qaV]; omega) (fun i hi hI => ?_) (fun hI => ?_)
 · exact Wk.weak (ρ := []) (φ := []) (by simp [qaV])
 · have es := qbT Beam.sz hi
   have hle := qbU Beam.sz l (i + 1)
   have e1 : (left : Int) - l.length - sumT Beam.sz l i = ((left - l.length - sumT Beam.sz l i : Nat) : Int) := by omega
   rw [e1]
   simp [Beam.rows_len, Beam.row_get, hi]
   refine CallZ.use0 (qnI l[i] _ (by omega) (hx _ (List.getElem_mem hi))) rfl rfl ?_
   simp
   refine ⟨fun h => ?_, fun h => ?_⟩
   · have := qaU h
     rw [qam (by unfold Beam.szS; omega)]
   · have hh := qaQ h
     refine ⟨by omega, ?_⟩
     refine Wk.weak (ρ := []) (φ := []) ?_
     simp
     rw [w64 (by omega) (by omega), qal hh]
     omega
 · simp [Beam.rows_len]
   rw [qbS] at hI ⊢
   rw [qal (by unfold Beam.szS; omega)]
   unfold Beam.szS
   omega
theorem qnK (x : Beam) (h : x.sz ≤ 1048576) : HFn Tryz.prog 164 [.agg x.cells] [] (.agg x.cells) [] := by
 unfold Beam.sz at h
 refine qaa hm Tryz.func164 (by kernel_rfl) rfl (by kernel_rfl) rfl qab ?_
 simp [Beam.cells]
 have k5 := qne x.loads (by unfold Load.szS at h; omega)
 refine CallZ.use0 k5 rfl rfl ?_
 simp
theorem qnL (l : List Beam) (h : Beam.szS l ≤ 1048576) : HFn Tryz.prog 73 [.sl 6 (Beam.rows l)] [] (.sl 6 (Beam.rows l)) [] := by
 have hl : l.length ≤ 1048576 := by unfold Beam.szS at h; omega
 have hs : ∀ x ∈ l, x.sz ≤ 1048576 := fun x hx => by
   have := qb8 Beam.sz hx
   unfold Beam.szS at h
   omega
 refine qaa hm Tryz.func73 (by kernel_rfl) rfl (by kernel_rfl) rfl (fun _ _ h => h) ?_
 simp [Beam.rows]
 refine ⟨by omega, by omega, .inr ?_⟩
 refine qac hm l.length (fun i => ⟨[(0, .sl 6 (Beam.rows l)), (3, .sf 0 6), (4, .int .i64 i)], [some (.arr 6 ((l.take i).map Beam.cells ++ List.replicate (l.length - i) [.str [], .int .i64 0, .int .i64 0, .int .i64 0, .int .i64 0, .nils]))]⟩) (fun _ => True) (by kernel_rfl) ?_ trivial (fun i hi _ => ?_) (fun _ => ?_)
 · exact Wk.weak (ρ := [0]) (φ := []) (by simp [Beam.rows])
 · obtain ⟨X, hX, hXl, hXg⟩ := qbq Beam.cells l [.str [], .int .i64 0, .int .i64 0, .int .i64 0, .int .i64 0, .nils] hi
   rw [hX]
   have ea := List.getElem?_eq_getElem hi
   simp [Beam.rows, hi]
   refine CallZ.use0 (qnK _ (hs _ (List.getElem_mem hi))) rfl rfl ?_
   simp [Beam.cells, hi, hXl, hXg]
   refine Wk.weak (ρ := [0]) (φ := []) ?_
   simp
   rw [w64 (by omega) (by omega), ← hX]
   exact ⟨rfl, qbQ Beam.cells l [.str [], .int .i64 0, .int .i64 0, .int .i64 0, .int .i64 0, .nils] hi⟩
 · simp [Beam.rows]
   exact Wk.weak (ρ := []) (φ := [0]) (by simp)
theorem qnM (a : Beam) (h : a.wf) : HFn Tryz.prog 172 [.agg a.cells, .agg a.cells] [] (.bool true) [] := by
 refine qaa hm Tryz.func172 (by kernel_rfl) rfl (by kernel_rfl) rfl qab ?_
 simp [Beam.cells]
 have k5 := qng a.loads a.loads h.loads.1
 refine CallZ.use0 k5 rfl rfl ?_
 simp
theorem qnN (a : List Beam) (ha : a.length ≤ 9223372036854775807) (h : ∀ x ∈ a, x.wf) : HFn Tryz.prog 84 [.sl 6 (Beam.rows a), .sl 6 (Beam.rows a)] [] (.bool true) [] := by
 refine qaa hm Tryz.func84 (by kernel_rfl) rfl (by kernel_rfl) rfl qab ?_
 simp [Beam.rows_len]
 refine qac hm a.length (fun i => ⟨[(0, .sl 6 (Beam.rows a)), (1, .sl 6 (Beam.rows a)), (5, .int .i64 i)], []⟩) (fun _ => True) (by kernel_rfl) ?_ trivial (fun i hi _ => ?_) (fun _ => ?_)
 · exact Wk.weak (ρ := []) (φ := []) (by simp)
 · simp [Beam.rows_len, Beam.row_get, hi]
   refine CallZ.use0 (qnM a[i] (h _ (List.getElem_mem hi))) rfl rfl ?_
   simp
   refine Wk.weak (ρ := []) (φ := []) ?_
   simp
   exact w64 (by omega) (by omega)
 · simp [Beam.rows_len]
end Go.Proofs.YtcjpfjklhhclmaaGreatDoor
namespace Go.Proofs.YtcjpfjklhhclmaaGreatDoor
open Go Go.Ab
set_option maxRecDepth 100000
structure Action where
 note : Int
 levers : List Lever
 slack : Int
 weight : Int
theorem Action.eq_iff {a b : Action} : a = b ↔ a.note = b.note ∧ a.levers = b.levers ∧ a.slack = b.slack ∧ a.weight = b.weight := by cases a; cases b; simp
instance : DecidableEq Action := fun _ _ => decidable_of_iff _ Action.eq_iff.symm
def Action.cells (x : Action) : List PV := [.int .i64 x.note, .sl 2 (Lever.rows x.levers), .int .i64 x.slack, .int .i64 x.weight]
def Action.rows (l : List Action) : List (List PV) := l.map Action.cells
def Action.sz (x : Action) : Nat := Lever.szS x.levers
def Action.szS (l : List Action) : Nat := l.length + (l.map Action.sz).sum
structure Action.wf (x : Action) : Prop where
 note : I64 x.note
 levers : (x.levers.length ≤ 9223372036854775807 ∧ ∀ y ∈ x.levers, y.wf)
 slack : I64 x.slack
 weight : I64 x.weight
theorem Action.rows_len (l : List Action) : (Action.rows l).length = l.length := by simp [Action.rows]
theorem Action.row_get (l : List Action) {i : Nat} (h : i < (Action.rows l).length) : (Action.rows l)[i] = (l[i]'(by rw [Action.rows_len] at h; exact h)).cells := by simp [Action.rows]
theorem Action.fits {cs : List PV} (h : fitsL [.int .i64, .slc [.int .i64, .int .i64], .int .i64, .int .i64] cs) : ∃ x : Action, cs = x.cells ∧ x.wf := by
 obtain ⟨_, _, rfl, h0, h⟩ := qak h
 obtain ⟨_, _, rfl, h1, h⟩ := qak h
 obtain ⟨_, _, rfl, h2, h⟩ := qak h
 obtain ⟨_, _, rfl, h3, h⟩ := qak h
 obtain rfl := qbV h
 obtain ⟨v0, rfl, w0⟩ := qan h0
 obtain ⟨r1, rfl, l1, f1⟩ := qb6 h1
 obtain ⟨v1, rfl, w1⟩ := Lever.fitsS f1
 rw [Lever.rows_len] at l1
 obtain ⟨v2, rfl, w2⟩ := qan h2
 obtain ⟨v3, rfl, w3⟩ := qan h3
 exact ⟨⟨v0, v1, v2, v3⟩, rfl, ⟨lit64 w0, ⟨l1, w1⟩, lit64 w2, lit64 w3⟩⟩
theorem Action.fitsS {rows : List (List PV)} (h : ∀ r ∈ rows, fitsL [.int .i64, .slc [.int .i64, .int .i64], .int .i64, .int .i64] r) : ∃ l : List Action, rows = Action.rows l ∧ ∀ x ∈ l, x.wf := qbR fun r hr => Action.fits (h r hr)
theorem qnO (x : Action) (left : Nat) (hl : left ≤ 1048576) (hx : x.wf) : HFn Tryz.prog 153 [.agg x.cells, .int .i64 left] [] (.int .i64 (szR x.sz left)) [] := by
 refine qaa hm Tryz.func153 (by kernel_rfl) rfl (by kernel_rfl) rfl qab ?_
 simp [Action.cells]
 have k0 := qni x.levers (left) (by omega) hx.levers.1 hx.levers.2
 refine CallZ.use0 k0 rfl rfl ?_
 simp
 refine ⟨fun h => ?_, fun h => ?_⟩
 · have := qaU h
   rw [qam (by unfold Action.sz; omega)]
 have h0 := qaQ h
 rw [qal h0]
 rw [qal (by unfold Action.sz; omega)]
 unfold Action.sz
 omega
theorem qnP (l : List Action) (left : Nat) (hl : left ≤ 1048576) (hlen : l.length ≤ 9223372036854775807) (hx : ∀ x ∈ l, x.wf) : HFn Tryz.prog 63 [.sl 4 (Action.rows l), .int .i64 left] [] (.int .i64 (szR (Action.szS l) left)) [] := by
 refine qaa hm Tryz.func63 (by kernel_rfl) rfl (by kernel_rfl) rfl qab ?_
 simp [Action.rows_len]
 rw [w64 (n := (left : Int) - l.length) (by omega) (by omega)]
 refine ⟨fun h => by rw [qam (by unfold Action.szS; omega)], fun h => ?_⟩
 refine qac hm l.length (fun i => ⟨[(0, .sl 4 (Action.rows l)), (1, .int .i64 (left - l.length - sumT Action.sz l i)), (5, .int .i64 i)], []⟩) (fun i => l.length + sumT Action.sz l i ≤ left) (by kernel_rfl) ?_ (by rw [qaV]; omega) (fun i hi hI => ?_) (fun hI => ?_)
 · exact Wk.weak (ρ := []) (φ := []) (by simp [qaV])
 · have es := qbT Action.sz hi
   have hle := qbU Action.sz l (i + 1)
   have e1 : (left : Int) - l.length - sumT Action.sz l i = ((left - l.length - sumT Action.sz l i : Nat) : Int) := by omega
   rw [e1]
   simp [Action.rows_len, Action.row_get, hi]
   refine CallZ.use0 (qnO l[i] _ (by omega) (hx _ (List.getElem_mem hi))) rfl rfl ?_
   simp
   refine ⟨fun h => ?_, fun h => ?_⟩
   · have := qaU h
     rw [qam (by unfold Action.szS; omega)]
   · have hh := qaQ h
     refine ⟨by omega, ?_⟩
     refine Wk.weak (ρ := []) (φ := []) ?_
     simp
     rw [w64 (by omega) (by omega), qal hh]
     omega
 · simp [Action.rows_len]
   rw [qbS] at hI ⊢
   rw [qal (by unfold Action.szS; omega)]
   unfold Action.szS
   omega
theorem qnQ (x : Action) (h : x.sz ≤ 1048576) : HFn Tryz.prog 165 [.agg x.cells] [] (.agg x.cells) [] := by
 unfold Action.sz at h
 refine qaa hm Tryz.func165 (by kernel_rfl) rfl (by kernel_rfl) rfl qab ?_
 simp [Action.cells]
 have k1 := qnk x.levers (by unfold Lever.szS at h; omega)
 refine CallZ.use0 k1 rfl rfl ?_
 simp
theorem qnR (l : List Action) (h : Action.szS l ≤ 1048576) : HFn Tryz.prog 74 [.sl 4 (Action.rows l)] [] (.sl 4 (Action.rows l)) [] := by
 have hl : l.length ≤ 1048576 := by unfold Action.szS at h; omega
 have hs : ∀ x ∈ l, x.sz ≤ 1048576 := fun x hx => by
   have := qb8 Action.sz hx
   unfold Action.szS at h
   omega
 refine qaa hm Tryz.func74 (by kernel_rfl) rfl (by kernel_rfl) rfl (fun _ _ h => h) ?_
 simp [Action.rows]
 refine ⟨by omega, by omega, .inr ?_⟩
 refine qac hm l.length (fun i => ⟨[(0, .sl 4 (Action.rows l)), (3, .sf 0 4), (4, .int .i64 i)], [some (.arr 4 ((l.take i).map Action.cells ++ List.replicate (l.length - i) [.int .i64 0, .nils, .int .i64 0, .int .i64 0]))]⟩) (fun _ => True) (by kernel_rfl) ?_ trivial (fun i hi _ => ?_) (fun _ => ?_)
 · exact Wk.weak (ρ := [0]) (φ := []) (by simp [Action.rows])
 · obtain ⟨X, hX, hXl, hXg⟩ := qbq Action.cells l [.int .i64 0, .nils, .int .i64 0, .int .i64 0] hi
   rw [hX]
   have ea := List.getElem?_eq_getElem hi
   simp [Action.rows, hi]
   refine CallZ.use0 (qnQ _ (hs _ (List.getElem_mem hi))) rfl rfl ?_
   simp [Action.cells, hi, hXl, hXg]
   refine Wk.weak (ρ := [0]) (φ := []) ?_
   simp
   rw [w64 (by omega) (by omega), ← hX]
   exact ⟨rfl, qbQ Action.cells l [.int .i64 0, .nils, .int .i64 0, .int .i64 0] hi⟩
 · simp [Action.rows]
   exact Wk.weak (ρ := []) (φ := [0]) (by simp)
theorem qnS (a : Action) (h : a.wf) : HFn Tryz.prog 173 [.agg a.cells, .agg a.cells] [] (.bool true) [] := by
 refine qaa hm Tryz.func173 (by kernel_rfl) rfl (by kernel_rfl) rfl qab ?_
 simp [Action.cells]
 have k1 := qnm a.levers a.levers h.levers.1
 refine CallZ.use0 k1 rfl rfl ?_
 simp
theorem qnT (a : List Action) (ha : a.length ≤ 9223372036854775807) (h : ∀ x ∈ a, x.wf) : HFn Tryz.prog 85 [.sl 4 (Action.rows a), .sl 4 (Action.rows a)] [] (.bool true) [] := by
 refine qaa hm Tryz.func85 (by kernel_rfl) rfl (by kernel_rfl) rfl qab ?_
 simp [Action.rows_len]
 refine qac hm a.length (fun i => ⟨[(0, .sl 4 (Action.rows a)), (1, .sl 4 (Action.rows a)), (5, .int .i64 i)], []⟩) (fun _ => True) (by kernel_rfl) ?_ trivial (fun i hi _ => ?_) (fun _ => ?_)
 · exact Wk.weak (ρ := []) (φ := []) (by simp)
 · simp [Action.rows_len, Action.row_get, hi]
   refine CallZ.use0 (qnS a[i] (h _ (List.getElem_mem hi))) rfl rfl ?_
   simp
   refine Wk.weak (ρ := []) (φ := []) ?_
   simp
   exact w64 (by omega) (by omega)
 · simp [Action.rows_len]
end Go.Proofs.YtcjpfjklhhclmaaGreatDoor
namespace Go.Proofs.YtcjpfjklhhclmaaGreatDoor
open Go Go.Ab
set_option maxRecDepth 100000
structure Tune where
 name : List UInt8
 tones : List Tone
theorem Tune.eq_iff {a b : Tune} : a = b ↔ a.name = b.name ∧ a.tones = b.tones := by cases a; cases b; simp
instance : DecidableEq Tune := fun _ _ => decidable_of_iff _ Tune.eq_iff.symm
def Tune.cells (x : Tune) : List PV := [.str x.name, .sl 3 (Tone.rows x.tones)]
def Tune.sz (x : Tune) : Nat := x.name.length + Tone.szS x.tones
structure Tune.wf (x : Tune) : Prop where
 name : x.name.length ≤ 9223372036854775807
 tones : (x.tones.length ≤ 9223372036854775807 ∧ ∀ y ∈ x.tones, y.wf)
theorem qnU (x : Tune) (left : Nat) (hl : left ≤ 1048576) (hx : x.wf) : HFn Tryz.prog 64 [.agg x.cells, .int .i64 left] [] (.int .i64 (szR x.sz left)) [] := by
 refine qaa hm Tryz.func64 (by kernel_rfl) rfl (by kernel_rfl) rfl qab ?_
 simp [Tune.cells]
 have w0 := hx.name
 rw [w64 (n := (left : Int) - x.name.length) (by omega) (by omega)]
 refine ⟨fun h => by rw [qam (by unfold Tune.sz; omega)], fun h0 => ?_⟩
 rw [show (left : Int) - x.name.length = ((left - x.name.length : Nat) : Int) by omega]
 have k1 := qnq x.tones (left - x.name.length) (by omega) hx.tones.1 hx.tones.2
 refine CallZ.use0 k1 rfl rfl ?_
 simp
 refine ⟨fun h => ?_, fun h => ?_⟩
 · have := qaU h
   rw [qam (by unfold Tune.sz; omega)]
 have h1 := qaQ h
 rw [qal h1]
 rw [qal (by unfold Tune.sz; omega)]
 unfold Tune.sz
 omega
theorem qnV (x : Tune) (h : x.sz ≤ 1048576) : HFn Tryz.prog 75 [.agg x.cells] [] (.agg x.cells) [] := by
 unfold Tune.sz at h
 refine qaa hm Tryz.func75 (by kernel_rfl) rfl (by kernel_rfl) rfl qab ?_
 simp [Tune.cells]
 have k1 := qns x.tones (by unfold Tone.szS at h; omega)
 refine CallZ.use0 k1 rfl rfl ?_
 simp
theorem qnW (a : Tune) (h : a.wf) : HFn Tryz.prog 86 [.agg a.cells, .agg a.cells] [] (.bool true) [] := by
 refine qaa hm Tryz.func86 (by kernel_rfl) rfl (by kernel_rfl) rfl qab ?_
 simp [Tune.cells]
 have k1 := qnu a.tones a.tones h.tones.1
 refine CallZ.use0 k1 rfl rfl ?_
 simp
end Go.Proofs.YtcjpfjklhhclmaaGreatDoor
namespace Go.Proofs.YtcjpfjklhhclmaaGreatDoor
open Go Go.Ab
set_option maxRecDepth 100000
structure Carillon where
 ingots : List Ingot
 melts : List Melt
 bells : List Bell
 hung : List Hung
 chamber : Chamber
 places : List Place
 gap : Int
 tower : Tower
 frame : List Beam
 stress : Int
 bending : Int
 clavier : List Action
 tune : Tune
theorem Carillon.eq_iff {a b : Carillon} : a = b ↔ a.ingots = b.ingots ∧ a.melts = b.melts ∧ a.bells = b.bells ∧ a.hung = b.hung ∧ a.chamber = b.chamber ∧ a.places = b.places ∧ a.gap = b.gap ∧ a.tower = b.tower ∧ a.frame = b.frame ∧ a.stress = b.stress ∧ a.bending = b.bending ∧ a.clavier = b.clavier ∧ a.tune = b.tune := by cases a; cases b; simp
instance : DecidableEq Carillon := fun _ _ => decidable_of_iff _ Carillon.eq_iff.symm
def Carillon.cells (x : Carillon) : List PV := [.sl 5 (Ingot.rows x.ingots), .sl 3 (Melt.rows x.melts), .sl 5 (Bell.rows x.bells), .sl 5 (Hung.rows x.hung), .int .i64 x.chamber.width, .int .i64 x.chamber.length, .int .i64 x.chamber.height, .sl 5 (Place.rows x.places), .int .i64 x.gap, .str x.tower.name, .int .i64 x.tower.sway, .int .i64 x.tower.damping, .int .i64 x.tower.stiffness, .int .i64 x.tower.limit, .sl 6 (Beam.rows x.frame), .int .i64 x.stress, .int .i64 x.bending, .sl 4 (Action.rows x.clavier), .str x.tune.name, .sl 3 (Tone.rows x.tune.tones)]
def Carillon.sz (x : Carillon) : Nat := Ingot.szS x.ingots + Melt.szS x.melts + Bell.szS x.bells + Hung.szS x.hung + Place.szS x.places + Tower.sz x.tower + Beam.szS x.frame + Action.szS x.clavier + Tune.sz x.tune
structure Carillon.wf (x : Carillon) : Prop where
 ingots : (x.ingots.length ≤ 9223372036854775807 ∧ ∀ y ∈ x.ingots, y.wf)
 melts : (x.melts.length ≤ 9223372036854775807 ∧ ∀ y ∈ x.melts, y.wf)
 bells : (x.bells.length ≤ 9223372036854775807 ∧ ∀ y ∈ x.bells, y.wf)
 hung : (x.hung.length ≤ 9223372036854775807 ∧ ∀ y ∈ x.hung, y.wf)
 chamber : Chamber.wf x.chamber
 places : (x.places.length ≤ 9223372036854775807 ∧ ∀ y ∈ x.places, y.wf)
 gap : I64 x.gap
 tower : Tower.wf x.tower
 frame : (x.frame.length ≤ 9223372036854775807 ∧ ∀ y ∈ x.frame, y.wf)
 stress : I64 x.stress
 bending : I64 x.bending
 clavier : (x.clavier.length ≤ 9223372036854775807 ∧ ∀ y ∈ x.clavier, y.wf)
 tune : Tune.wf x.tune
theorem Carillon.fits {cs : List PV} (h : fitsL [.slc [.str, .int .i64, .int .i64, .int .i64, .int .i64], .slc [.str, .slc [.str], .int .i64], .slc [.str, .int .i64, .int .i64, .int .i64, .slc [.str, .int .i64]], .slc [.str, .int .i64, .int .i64, .int .i64, .int .i64], .int .i64, .int .i64, .int .i64, .slc [.str, .int .i64, .int .i64, .int .i64, .int .i64], .int .i64, .str, .int .i64, .int .i64, .int .i64, .int .i64, .slc [.str, .int .i64, .int .i64, .int .i64, .int .i64, .slc [.int .i64, .int .i64]], .int .i64, .int .i64, .slc [.int .i64, .slc [.int .i64, .int .i64], .int .i64, .int .i64], .str, .slc [.int .i64, .int .i64, .int .i64]] cs) : ∃ x : Carillon, cs = x.cells ∧ x.wf := by
 obtain ⟨_, _, rfl, h0, h⟩ := qak h
 obtain ⟨_, _, rfl, h1, h⟩ := qak h
 obtain ⟨_, _, rfl, h2, h⟩ := qak h
 obtain ⟨_, _, rfl, h3, h⟩ := qak h
 obtain ⟨_, _, rfl, h4, h⟩ := qak h
 obtain ⟨_, _, rfl, h5, h⟩ := qak h
 obtain ⟨_, _, rfl, h6, h⟩ := qak h
 obtain ⟨_, _, rfl, h7, h⟩ := qak h
 obtain ⟨_, _, rfl, h8, h⟩ := qak h
 obtain ⟨_, _, rfl, h9, h⟩ := qak h
 obtain ⟨_, _, rfl, h10, h⟩ := qak h
 obtain ⟨_, _, rfl, h11, h⟩ := qak h
 obtain ⟨_, _, rfl, h12, h⟩ := qak h
 obtain ⟨_, _, rfl, h13, h⟩ := qak h
 obtain ⟨_, _, rfl, h14, h⟩ := qak h
 obtain ⟨_, _, rfl, h15, h⟩ := qak h
 obtain ⟨_, _, rfl, h16, h⟩ := qak h
 obtain ⟨_, _, rfl, h17, h⟩ := qak h
 obtain ⟨_, _, rfl, h18, h⟩ := qak h
 obtain ⟨_, _, rfl, h19, h⟩ := qak h
 obtain rfl := qbV h
 obtain ⟨r0, rfl, l0, f0⟩ := qb6 h0
 obtain ⟨v0, rfl, w0⟩ := Ingot.fitsS f0
 rw [Ingot.rows_len] at l0
 obtain ⟨r1, rfl, l1, f1⟩ := qb6 h1
 obtain ⟨v1, rfl, w1⟩ := Melt.fitsS f1
 rw [Melt.rows_len] at l1
 obtain ⟨r2, rfl, l2, f2⟩ := qb6 h2
 obtain ⟨v2, rfl, w2⟩ := Bell.fitsS f2
 rw [Bell.rows_len] at l2
 obtain ⟨r3, rfl, l3, f3⟩ := qb6 h3
 obtain ⟨v3, rfl, w3⟩ := Hung.fitsS f3
 rw [Hung.rows_len] at l3
 obtain ⟨v4, rfl, w4⟩ := qan h4
 obtain ⟨v5, rfl, w5⟩ := qan h5
 obtain ⟨v6, rfl, w6⟩ := qan h6
 obtain ⟨r7, rfl, l7, f7⟩ := qb6 h7
 obtain ⟨v7, rfl, w7⟩ := Place.fitsS f7
 rw [Place.rows_len] at l7
 obtain ⟨v8, rfl, w8⟩ := qan h8
 obtain ⟨v9, rfl, w9⟩ := qcF h9
 obtain ⟨v10, rfl, w10⟩ := qan h10
 obtain ⟨v11, rfl, w11⟩ := qan h11
 obtain ⟨v12, rfl, w12⟩ := qan h12
 obtain ⟨v13, rfl, w13⟩ := qan h13
 obtain ⟨r14, rfl, l14, f14⟩ := qb6 h14
 obtain ⟨v14, rfl, w14⟩ := Beam.fitsS f14
 rw [Beam.rows_len] at l14
 obtain ⟨v15, rfl, w15⟩ := qan h15
 obtain ⟨v16, rfl, w16⟩ := qan h16
 obtain ⟨r17, rfl, l17, f17⟩ := qb6 h17
 obtain ⟨v17, rfl, w17⟩ := Action.fitsS f17
 rw [Action.rows_len] at l17
 obtain ⟨v18, rfl, w18⟩ := qcF h18
 obtain ⟨r19, rfl, l19, f19⟩ := qb6 h19
 obtain ⟨v19, rfl, w19⟩ := Tone.fitsS f19
 rw [Tone.rows_len] at l19
 exact ⟨⟨v0, v1, v2, v3, ⟨v4, v5, v6⟩, v7, v8, ⟨v9, v10, v11, v12, v13⟩, v14, v15, v16, v17, ⟨v18, v19⟩⟩, rfl, ⟨⟨l0, w0⟩, ⟨l1, w1⟩, ⟨l2, w2⟩, ⟨l3, w3⟩, ⟨(lit64 w4).1, (lit64 w4).2, (lit64 w5).1, (lit64 w5).2, (lit64 w6).1, (lit64 w6).2⟩, ⟨l7, w7⟩, lit64 w8, ⟨w9, (lit64 w10).1, (lit64 w10).2, (lit64 w11).1, (lit64 w11).2, (lit64 w12).1, (lit64 w12).2, (lit64 w13).1, (lit64 w13).2⟩, ⟨l14, w14⟩, lit64 w15, lit64 w16, ⟨l17, w17⟩, ⟨w18, ⟨l19, w19⟩⟩⟩⟩
theorem qnX (x : Carillon) (left : Nat) (hl : left ≤ 1048576) (hx : x.wf) : HFn Tryz.prog 23 [.agg x.cells, .int .i64 left] [] (.int .i64 (szR x.sz left)) [] := by
 refine qaa hm Tryz.func23 (by kernel_rfl) rfl (by kernel_rfl) rfl qab ?_
 simp [Carillon.cells]
 have k0 := qmI x.ingots (left) (by omega) hx.ingots.1 hx.ingots.2
 refine CallZ.use0 k0 rfl rfl ?_
 simp
 refine ⟨fun h => ?_, fun h => ?_⟩
 · have := qaU h
   rw [qam (by unfold Carillon.sz; omega)]
 have h0 := qaQ h
 rw [qal h0]
 rw [show (left : Int) - ((Ingot.szS x.ingots : Nat) : Int) = ((left - Ingot.szS x.ingots : Nat) : Int) by omega]
 have k1 := qnx x.melts (left - Ingot.szS x.ingots) (by omega) hx.melts.1 hx.melts.2
 refine CallZ.use0 k1 rfl rfl ?_
 simp
 refine ⟨fun h => ?_, fun h => ?_⟩
 · have := qaU h
   rw [qam (by unfold Carillon.sz; omega)]
 have h1 := qaQ h
 rw [qal h1]
 rw [show ((left - Ingot.szS x.ingots : Nat) : Int) - ((Melt.szS x.melts : Nat) : Int) = ((left - Ingot.szS x.ingots - Melt.szS x.melts : Nat) : Int) by omega]
 have k2 := qnD x.bells (left - Ingot.szS x.ingots - Melt.szS x.melts) (by omega) hx.bells.1 hx.bells.2
 refine CallZ.use0 k2 rfl rfl ?_
 simp
 refine ⟨fun h => ?_, fun h => ?_⟩
 · have := qaU h
   rw [qam (by unfold Carillon.sz; omega)]
 have h2 := qaQ h
 rw [qal h2]
 rw [show ((left - Ingot.szS x.ingots - Melt.szS x.melts : Nat) : Int) - ((Bell.szS x.bells : Nat) : Int) = ((left - Ingot.szS x.ingots - Melt.szS x.melts - Bell.szS x.bells : Nat) : Int) by omega]
 have k3 := qmP x.hung (left - Ingot.szS x.ingots - Melt.szS x.melts - Bell.szS x.bells) (by omega) hx.hung.1 hx.hung.2
 refine CallZ.use0 k3 rfl rfl ?_
 simp
 refine ⟨fun h => ?_, fun h => ?_⟩
 · have := qaU h
   rw [qam (by unfold Carillon.sz; omega)]
 have h3 := qaQ h
 rw [qal h3]
 rw [show ((left - Ingot.szS x.ingots - Melt.szS x.melts - Bell.szS x.bells : Nat) : Int) - ((Hung.szS x.hung : Nat) : Int) = ((left - Ingot.szS x.ingots - Melt.szS x.melts - Bell.szS x.bells - Hung.szS x.hung : Nat) : Int) by omega]
 have k4 := qmX x.places (left - Ingot.szS x.ingots - Melt.szS x.melts - Bell.szS x.bells - Hung.szS x.hung) (by omega) hx.places.1 hx.places.2
 refine CallZ.use0 k4 rfl rfl ?_
 simp
 refine ⟨fun h => ?_, fun h => ?_⟩
 · have := qaU h
   rw [qam (by unfold Carillon.sz; omega)]
 have h4 := qaQ h
 rw [qal h4]
 rw [show ((left - Ingot.szS x.ingots - Melt.szS x.melts - Bell.szS x.bells - Hung.szS x.hung : Nat) : Int) - ((Place.szS x.places : Nat) : Int) = ((left - Ingot.szS x.ingots - Melt.szS x.melts - Bell.szS x.bells - Hung.szS x.hung - Place.szS x.places : Nat) : Int) by omega]
 have k5 := qm3 x.tower (left - Ingot.szS x.ingots - Melt.szS x.melts - Bell.szS x.bells - Hung.szS x.hung - Place.szS x.places) (by omega) hx.tower
 simp only [Tower.cells] at k5
 refine CallZ.use0 k5 rfl rfl ?_
 simp
 refine ⟨fun h => ?_, fun h => ?_⟩
 · have := qaU h
   rw [qam (by unfold Carillon.sz; omega)]
 have h5 := qaQ h
 rw [qal h5]
 rw [show ((left - Ingot.szS x.ingots - Melt.szS x.melts - Bell.szS x.bells - Hung.szS x.hung - Place.szS x.places : Nat) : Int) - ((Tower.sz x.tower : Nat) : Int) = ((left - Ingot.szS x.ingots - Melt.szS x.melts - Bell.szS x.bells - Hung.szS x.hung - Place.szS x.places - Tower.sz x.tower : Nat) : Int) by omega]
 have k6 := qnJ x.frame (left - Ingot.szS x.ingots - Melt.szS x.melts - Bell.szS x.bells - Hung.szS x.hung - Place.szS x.places - Tower.sz x.tower) (by omega) hx.frame.1 hx.frame.2
 refine CallZ.use0 k6 rfl rfl ?_
 simp
 refine ⟨fun h => ?_, fun h => ?_⟩
 · have := qaU h
   rw [qam (by unfold Carillon.sz; omega)]
 have h6 := qaQ h
 rw [qal h6]
 rw [show ((left - Ingot.szS x.ingots - Melt.szS x.melts - Bell.szS x.bells - Hung.szS x.hung - Place.szS x.places - Tower.sz x.tower : Nat) : Int) - ((Beam.szS x.frame : Nat) : Int) = ((left - Ingot.szS x.ingots - Melt.szS x.melts - Bell.szS x.bells - Hung.szS x.hung - Place.szS x.places - Tower.sz x.tower - Beam.szS x.frame : Nat) : Int) by omega]
 have k7 := qnP x.clavier (left - Ingot.szS x.ingots - Melt.szS x.melts - Bell.szS x.bells - Hung.szS x.hung - Place.szS x.places - Tower.sz x.tower - Beam.szS x.frame) (by omega) hx.clavier.1 hx.clavier.2
 refine CallZ.use0 k7 rfl rfl ?_
 simp
 refine ⟨fun h => ?_, fun h => ?_⟩
 · have := qaU h
   rw [qam (by unfold Carillon.sz; omega)]
 have h7 := qaQ h
 rw [qal h7]
 rw [show ((left - Ingot.szS x.ingots - Melt.szS x.melts - Bell.szS x.bells - Hung.szS x.hung - Place.szS x.places - Tower.sz x.tower - Beam.szS x.frame : Nat) : Int) - ((Action.szS x.clavier : Nat) : Int) = ((left - Ingot.szS x.ingots - Melt.szS x.melts - Bell.szS x.bells - Hung.szS x.hung - Place.szS x.places - Tower.sz x.tower - Beam.szS x.frame - Action.szS x.clavier : Nat) : Int) by omega]
 have k8 := qnU x.tune (left - Ingot.szS x.ingots - Melt.szS x.melts - Bell.szS x.bells - Hung.szS x.hung - Place.szS x.places - Tower.sz x.tower - Beam.szS x.frame - Action.szS x.clavier) (by omega) hx.tune
 simp only [Tune.cells] at k8
 refine CallZ.use0 k8 rfl rfl ?_
 simp
 refine ⟨fun h => ?_, fun h => ?_⟩
 · have := qaU h
   rw [qam (by unfold Carillon.sz; omega)]
 have h8 := qaQ h
 rw [qal h8]
 rw [qal (by unfold Carillon.sz; omega)]
 unfold Carillon.sz
 omega
theorem qnY (x : Carillon) (h : x.sz ≤ 1048576) : HFn Tryz.prog 25 [.agg x.cells] [] (.agg x.cells) [] := by
 unfold Carillon.sz at h
 refine qaa hm Tryz.func25 (by kernel_rfl) rfl (by kernel_rfl) rfl qab ?_
 simp [Carillon.cells]
 have k0 := qmK x.ingots (by unfold Ingot.szS at h; omega)
 refine CallZ.use0 k0 rfl rfl ?_
 simp
 have k1 := qnz x.melts (by omega)
 refine CallZ.use0 k1 rfl rfl ?_
 simp
 have k2 := qnF x.bells (by omega)
 refine CallZ.use0 k2 rfl rfl ?_
 simp
 have k3 := qmR x.hung (by unfold Hung.szS at h; omega)
 refine CallZ.use0 k3 rfl rfl ?_
 simp
 have k4 := qiR x.chamber
 simp only [Chamber.cells] at k4
 refine CallZ.use0 k4 rfl rfl ?_
 simp
 have k5 := qmZ x.places (by unfold Place.szS at h; omega)
 refine CallZ.use0 k5 rfl rfl ?_
 simp
 have k7 := qiT x.tower
 simp only [Tower.cells] at k7
 refine CallZ.use0 k7 rfl rfl ?_
 simp
 have k8 := qnL x.frame (by omega)
 refine CallZ.use0 k8 rfl rfl ?_
 simp
 have k11 := qnR x.clavier (by omega)
 refine CallZ.use0 k11 rfl rfl ?_
 simp
 have k12 := qnV x.tune (by omega)
 simp only [Tune.cells] at k12
 refine CallZ.use0 k12 rfl rfl ?_
 simp
theorem qiZ (a : Carillon) (h : a.wf) : HFn Tryz.prog 27 [.agg a.cells, .agg a.cells] [] (.bool true) [] := by
 refine qaa hm Tryz.func27 (by kernel_rfl) rfl (by kernel_rfl) rfl qab ?_
 simp [Carillon.cells]
 have k0 := qmM a.ingots a.ingots h.ingots.1
 refine CallZ.use0 k0 rfl rfl ?_
 simp
 have k1 := qnB a.melts h.melts.1 h.melts.2
 refine CallZ.use0 k1 rfl rfl ?_
 simp
 have k2 := qnH a.bells h.bells.1 h.bells.2
 refine CallZ.use0 k2 rfl rfl ?_
 simp
 have k3 := qmT a.hung a.hung h.hung.1
 refine CallZ.use0 k3 rfl rfl ?_
 simp
 have k4 := qmV a.chamber a.chamber
 simp only [Chamber.cells] at k4
 refine CallZ.use0 k4 rfl rfl ?_
 simp
 have k5 := qm1 a.places a.places h.places.1
 refine CallZ.use0 k5 rfl rfl ?_
 simp
 have k7 := qm4 a.tower a.tower
 simp only [Tower.cells] at k7
 refine CallZ.use0 k7 rfl rfl ?_
 simp
 have k8 := qnN a.frame h.frame.1 h.frame.2
 refine CallZ.use0 k8 rfl rfl ?_
 simp
 have k11 := qnT a.clavier h.clavier.1 h.clavier.2
 refine CallZ.use0 k11 rfl rfl ?_
 simp
 have k12 := qnW a.tune h.tune
 simp only [Tune.cells] at k12
 refine CallZ.use0 k12 rfl rfl ?_
 simp
end Go.Proofs.YtcjpfjklhhclmaaGreatDoor
