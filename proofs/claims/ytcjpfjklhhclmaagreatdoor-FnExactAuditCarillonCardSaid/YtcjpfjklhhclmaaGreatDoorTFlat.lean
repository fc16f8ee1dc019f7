/- The types Alloy, Ingot, Hung, Chamber, Place, Tower, Share, Load, Lever, Swing, Trouble as plain data, and what the functions of package laws do with them. No condition. -/
import Derived.Test.YtcjpfjklhhclmaaGreatDoorCd
import Derived.Test.YtcjpfjklhhclmaaGreatDoorKe
namespace Go.Proofs.YtcjpfjklhhclmaaGreatDoor
open Go Go.Ab
set_option maxRecDepth 100000
structure Alloy where
 copper : Int
 tin : Int
 other : Int
theorem Alloy.eq_iff {a b : Alloy} : a = b ↔ a.copper = b.copper ∧ a.tin = b.tin ∧ a.other = b.other := by cases a; cases b; simp
instance : DecidableEq Alloy := fun _ _ => decidable_of_iff _ Alloy.eq_iff.symm
def Alloy.cells (x : Alloy) : List PV := [.int .i64 x.copper, .int .i64 x.tin, .int .i64 x.other]
theorem qmF (x : Alloy) : HFn Tryz.prog 244 [.agg x.cells] [] (.agg x.cells) [] := by
 refine qaa hm Tryz.func244 (by kernel_rfl) rfl (by kernel_rfl) rfl qab ?_
 simp [Alloy.cells]
theorem qmG (a b : Alloy) : HFn Tryz.prog 250 [.agg a.cells, .agg b.cells] [] (.bool (decide (a = b))) [] := by
 refine qaa hm Tryz.func250 (by kernel_rfl) rfl (by kernel_rfl) rfl qab ?_
 simp [Alloy.cells, Alloy.eq_iff]
 grind
end Go.Proofs.YtcjpfjklhhclmaaGreatDoor
namespace Go.Proofs.YtcjpfjklhhclmaaGreatDoor
open Go Go.Ab
set_option maxRecDepth 100000
structure Ingot where
 id : List UInt8
 mass : Int
 alloyCopper : Int
 alloyTin : Int
 alloyOther : Int
theorem Ingot.eq_iff {a b : Ingot} : a = b ↔ a.id = b.id ∧ a.mass = b.mass ∧ a.alloyCopper = b.alloyCopper ∧ a.alloyTin = b.alloyTin ∧ a.alloyOther = b.alloyOther := by cases a; cases b; simp
instance : DecidableEq Ingot := fun _ _ => decidable_of_iff _ Ingot.eq_iff.symm
def Ingot.cells (x : Ingot) : List PV := [.str x.id, .int .i64 x.mass, .int .i64 x.alloyCopper, .int .i64 x.alloyTin, .int .i64 x.alloyOther]
def Ingot.rows (l : List Ingot) : List (List PV) := l.map Ingot.cells
def Ingot.sz (x : Ingot) : Nat := x.id.length
def Ingot.szS (l : List Ingot) : Nat := l.length + (l.map Ingot.sz).sum
def Ingot.wf (x : Ingot) : Prop := x.id.length ≤ 9223372036854775807 ∧ -9223372036854775808 ≤ x.mass ∧ x.mass ≤ 9223372036854775807 ∧ -9223372036854775808 ≤ x.alloyCopper ∧ x.alloyCopper ≤ 9223372036854775807 ∧ -9223372036854775808 ≤ x.alloyTin ∧ x.alloyTin ≤ 9223372036854775807 ∧ -9223372036854775808 ≤ x.alloyOther ∧ x.alloyOther ≤ 9223372036854775807
theorem Ingot.fits {cs : List PV} (h : fitsL [.str, .int .i64, .int .i64, .int .i64, .int .i64] cs) : ∃ x : Ingot, cs = x.cells ∧ x.wf := by
 obtain ⟨_, _, rfl, h0, h⟩ := qak h
 obtain ⟨_, _, rfl, h1, h⟩ := qak h
 obtain ⟨_, _, rfl, h2, h⟩ := qak h
 obtain ⟨_, _, rfl, h3, h⟩ := qak h
 obtain ⟨_, _, rfl, h4, h⟩ := qak h
 obtain rfl := qbV h
 obtain ⟨v0, rfl, w0⟩ := qcF h0
 obtain ⟨v1, rfl, w1⟩ := qan h1
 obtain ⟨v2, rfl, w2⟩ := qan h2
 obtain ⟨v3, rfl, w3⟩ := qan h3
 obtain ⟨v4, rfl, w4⟩ := qan h4
 exact ⟨⟨v0, v1, v2, v3, v4⟩, rfl, w0, (lit64 w1).1, (lit64 w1).2, (lit64 w2).1, (lit64 w2).2, (lit64 w3).1, (lit64 w3).2, (lit64 w4).1, (lit64 w4).2⟩
theorem Ingot.fitsS {rows : List (List PV)} (h : ∀ r ∈ rows, fitsL [.str, .int .i64, .int .i64, .int .i64, .int .i64] r) : ∃ l : List Ingot, rows = Ingot.rows l ∧ ∀ x ∈ l, x.wf := qbR fun r hr => Ingot.fits (h r hr)
theorem Ingot.flat (l : List Ingot) : qbz (Ingot.rows l) := fun r hr c hc => by
 obtain ⟨x, _, rfl⟩ := List.mem_map.1 hr
 simp only [Ingot.cells, List.mem_cons, List.not_mem_nil, or_false] at hc
 rcases hc with rfl | rfl | rfl | rfl | rfl <;> rfl
theorem Ingot.rows_len (l : List Ingot) : (Ingot.rows l).length = l.length := by simp [Ingot.rows]
theorem qmH (x : Ingot) (left : Nat) (hl : left ≤ 1048576) (hx : x.wf) : HFn Tryz.prog 147 [.agg x.cells, .int .i64 left] [] (.int .i64 (szR x.sz left)) [] := by
 unfold Ingot.wf at hx
 refine qaa hm Tryz.func147 (by kernel_rfl) rfl (by kernel_rfl) rfl qab ?_
 simp [Ingot.cells, Ingot.sz]
 rw [w64 (n := (left : Int) - x.id.length) (by omega) (by omega)]
 refine ⟨fun h => by rw [qam (by omega)], fun h => by rw [qal (by omega)]⟩
theorem qmI (l : List Ingot) (left : Nat) (hl : left ≤ 1048576) (hlen : l.length ≤ 9223372036854775807) (hx : ∀ x ∈ l, x.wf) : HFn Tryz.prog 56 [.sl 5 (Ingot.rows l), .int .i64 left] [] (.int .i64 (szR (Ingot.szS l) left)) [] := by
 refine qaa hm Tryz.func56 (by kernel_rfl) rfl (by kernel_rfl) rfl qab ?_
 simp [Ingot.rows]
 rw [w64 (n := (left : Int) - l.length) (by omega) (by omega)]
 refine ⟨fun h => by rw [qam (by unfold Ingot.szS; omega)], fun h => ?_⟩
 refine qac hm l.length (fun i => ⟨[(0, .sl 5 (Ingot.rows l)), (1, .int .i64 (left - l.length - sumT Ingot.sz l i)), (5, .int .i64 i)], []⟩) (fun i => l.length + sumT Ingot.sz l i ≤ left) (by kernel_rfl) ?_ (by rw [qaV]; omega) (fun i hi hI => ?_) (fun hI => ?_)
 · exact Wk.weak (ρ := []) (φ := []) (by simp [Ingot.rows, qaV])
 · have ea := List.getElem?_eq_getElem hi
   have es := qbT Ingot.sz hi
   have hle := qbU Ingot.sz l (i + 1)
   have e1 : (left : Int) - l.length - sumT Ingot.sz l i = ((left - l.length - sumT Ingot.sz l i : Nat) : Int) := by omega
   rw [e1]
   simp [Ingot.rows, hi]
   refine CallZ.use0 (qmH l[i] _ (by omega) (hx _ (List.getElem_mem hi))) rfl rfl ?_
   simp
   refine ⟨fun h => ?_, fun h => ?_⟩
   · have := qaU h
     rw [qam (by unfold Ingot.szS; omega)]
   · have hh := qaQ h
     refine ⟨by omega, ?_⟩
     refine Wk.weak (ρ := []) (φ := []) ?_
     simp
     rw [w64 (by omega) (by omega), qal hh]
     omega
 · simp [Ingot.rows]
   rw [qbS] at hI ⊢
   rw [qal (by unfold Ingot.szS; omega)]
   unfold Ingot.szS
   omega
theorem qmJ (x : Ingot) : HFn Tryz.prog 159 [.agg x.cells] [] (.agg x.cells) [] := by
 refine qaa hm Tryz.func159 (by kernel_rfl) rfl (by kernel_rfl) rfl qab ?_
 simp [Ingot.cells]
 refine CallZ.use0 (qmF ⟨x.alloyCopper, x.alloyTin, x.alloyOther⟩) rfl rfl ?_
 simp [Alloy.cells]
theorem qiP (l : List Ingot) (hl : l.length ≤ 1048576) : HFn Tryz.prog 66 [.sl 5 (Ingot.rows l)] [] (.sf 0 5) [some (.arr 5 (Ingot.rows l))] := by
 refine qaa hm Tryz.func66 (by kernel_rfl) rfl (by kernel_rfl) rfl (qdh (ρ := [0]) (φ := [])) ?_
 simp [Ingot.rows]
 refine ⟨by omega, by omega, ?_⟩
 refine qac hm l.length (fun i => ⟨[(0, .sl 5 (Ingot.rows l)), (3, .sf 0 5), (4, .int .i64 i)], [some (.arr 5 ((l.take i).map Ingot.cells ++ List.replicate (l.length - i) [.str [], .int .i64 0, .int .i64 0, .int .i64 0, .int .i64 0]))]⟩) (fun _ => True) (by kernel_rfl) ?_ trivial (fun i hi _ => ?_) (fun _ => ?_)
 · exact Wk.weak (ρ := [0]) (φ := []) (by simp [Ingot.rows])
 · obtain ⟨X, hX, hXl, hXg⟩ := qbq Ingot.cells l [.str [], .int .i64 0, .int .i64 0, .int .i64 0, .int .i64 0] hi
   rw [hX]
   have ea := List.getElem?_eq_getElem hi
   simp [Ingot.rows, hi]
   refine CallZ.use0 (qmJ _) rfl rfl ?_
   simp [Ingot.cells, hi, hXl, hXg]
   refine Wk.weak (ρ := [0]) (φ := []) ?_
   simp
   rw [w64 (by omega) (by omega), ← hX]
   exact ⟨rfl, qbQ Ingot.cells l [.str [], .int .i64 0, .int .i64 0, .int .i64 0, .int .i64 0] hi⟩
 · simp [Ingot.rows]
theorem qmK (l : List Ingot) (hl : l.length ≤ 1048576) : HFn Tryz.prog 66 [.sl 5 (Ingot.rows l)] [] (.sl 5 (Ingot.rows l)) [] := (qiP l hl).less (Wk.weak (ρ := []) (φ := [0]) (by simp))
theorem qmL (a b : Ingot) : HFn Tryz.prog 167 [.agg a.cells, .agg b.cells] [] (.bool (decide (a = b))) [] := by
 refine qaa hm Tryz.func167 (by kernel_rfl) rfl (by kernel_rfl) rfl qab ?_
 by_cases h0 : a.id = b.id
 rotate_left
 · simp [Ingot.cells, Ingot.eq_iff, h0]
 by_cases h1 : a.mass = b.mass
 rotate_left
 · simp [Ingot.cells, Ingot.eq_iff, h0, h1]
 simp [Ingot.cells, Ingot.eq_iff, h0, h1]
 refine CallZ.use0 (qmG ⟨a.alloyCopper, a.alloyTin, a.alloyOther⟩ ⟨b.alloyCopper, b.alloyTin, b.alloyOther⟩) rfl rfl ?_
 simp [Alloy.eq_iff]
 try grind
theorem qmM (a b : List Ingot) (ha : a.length ≤ 9223372036854775807) : HFn Tryz.prog 77 [.sl 5 (Ingot.rows a), .sl 5 (Ingot.rows b)] [] (.bool (decide (a = b))) [] := by
 refine qaa hm Tryz.func77 (by kernel_rfl) rfl (by kernel_rfl) rfl qab ?_
 simp [Ingot.rows]
 refine ⟨fun h => ?_, fun h => ?_⟩
 · exact fun e => h (by rw [e])
 · refine qac hm a.length (fun i => ⟨[(0, .sl 5 (Ingot.rows a)), (1, .sl 5 (Ingot.rows b)), (5, .int .i64 i)], []⟩) (fun i => a.take i = b.take i) (by kernel_rfl) ?_ (by simp) (fun i hi hI => ?_) (fun hI => ?_)
   · exact Wk.weak (ρ := []) (φ := []) (by simp [Ingot.rows])
   · have hl : a.length = b.length := by omega
     have ea := List.getElem?_eq_getElem hi
     have hi' : i < b.length := by omega
     have eb := List.getElem?_eq_getElem hi'
     simp [Ingot.rows, hi, hi']
     refine CallZ.use0 (qmL a[i] b[i]) rfl rfl ?_
     simp
     refine ⟨fun h e => h (by simp [e]), fun h => ⟨qcU hI ea eb h, ?_⟩⟩
     refine Wk.weak (ρ := []) (φ := []) ?_
     simp
     exact w64 (by omega) (by omega)
   · simp [Ingot.rows]
     exact qcV hI (by omega)
def Ingot.mark (k : Int) : Ingot := ⟨markT k, k + 1, k + 1 + 1, k + 1 + 1 + 1, k + 1 + 1 + 1 + 1⟩
def Ingot.marks (k : Int) (n : Nat) : List Ingot := (List.range n).map fun i : Nat => Ingot.mark (k + 5 * i)
theorem qmN (l : List Ingot) (k : Int) (hk : 0 ≤ k) (ha : 5 * l.length + k ≤ 1000000000) : MFn Tryz.prog 87 [.sf 0 5, .int .i64 k] [some (.arr 5 (Ingot.rows l))] [0] (.int .i64 (k + 5 * l.length)) [some (.arr 5 (Ingot.rows (Ingot.marks k l.length)))] := by
 refine qcS [0] hm Tryz.func87 (by kernel_rfl) rfl (by kernel_rfl) rfl (qcT (ρ := [0]) (φ := [])) (by simp [Ingot.rows, Ingot.marks]) ?_
 simp
 refine qac hm l.length (fun i => ⟨[(0, .sf 0 5), (1, .int .i64 (k + 5 * i)), (5, .int .i64 i), (52, .own 0)], [some (.arr 5 (Ingot.rows (Ingot.marks k i ++ l.drop i)))]⟩) (fun _ => True) (by kernel_rfl) ?_ trivial (fun i hi _ => ?_) (fun _ => ?_)
 · refine Wk.weak (ρ := [0]) (φ := []) ?_
   simp [Ingot.rows, Ingot.marks]
 · obtain ⟨X, hX, hl, hg⟩ := qa6 (fun j : Nat => Ingot.mark (k + 5 * j)) l hi
   rw [show Ingot.marks k i ++ l.drop i = X from hX]
   simp [Ingot.rows, hl, hi]
   refine CallZ.use0 (qb7 _ (by omega)) rfl rfl ?_
   simp [Ingot.cells, hl, hg, hi]
   rw [w64 (n := k + 5 * (i : Int) + 1) (by omega) (by omega)]
   rw [w64 (n := k + 5 * (i : Int) + 1 + 1) (by omega) (by omega)]
   rw [w64 (n := k + 5 * (i : Int) + 1 + 1 + 1) (by omega) (by omega)]
   rw [w64 (n := k + 5 * (i : Int) + 1 + 1 + 1 + 1) (by omega) (by omega)]
   rw [w64 (n := k + 5 * (i : Int) + 1 + 1 + 1 + 1 + 1) (by omega) (by omega)]
   refine Wk.weak (ρ := [0]) (φ := []) ?_
   simp
   rw [w64 (by omega) (by omega), ← hX]
   refine ⟨by omega, ?_⟩
   exact qcX Ingot.cells (fun j : Nat => Ingot.mark (k + 5 * j)) l hi
 · simp [Ingot.rows, Ingot.marks]
end Go.Proofs.YtcjpfjklhhclmaaGreatDoor
namespace Go.Proofs.YtcjpfjklhhclmaaGreatDoor
open Go Go.Ab
set_option maxRecDepth 100000
structure Hung where
 bell : List UInt8
 mass : Int
 arm : Int
 form : Int
 angle : Int
theorem Hung.eq_iff {a b : Hung} : a = b ↔ a.bell = b.bell ∧ a.mass = b.mass ∧ a.arm = b.arm ∧ a.form = b.form ∧ a.angle = b.angle := by cases a; cases b; simp
instance : DecidableEq Hung := fun _ _ => decidable_of_iff _ Hung.eq_iff.symm
def Hung.cells (x : Hung) : List PV := [.str x.bell, .int .i64 x.mass, .int .i64 x.arm, .int .i64 x.form, .int .i64 x.angle]
def Hung.rows (l : List Hung) : List (List PV) := l.map Hung.cells
def Hung.sz (x : Hung) : Nat := x.bell.length
def Hung.szS (l : List Hung) : Nat := l.length + (l.map Hung.sz).sum
def Hung.wf (x : Hung) : Prop := x.bell.length ≤ 9223372036854775807 ∧ -9223372036854775808 ≤ x.mass ∧ x.mass ≤ 9223372036854775807 ∧ -9223372036854775808 ≤ x.arm ∧ x.arm ≤ 9223372036854775807 ∧ -9223372036854775808 ≤ x.form ∧ x.form ≤ 9223372036854775807 ∧ -9223372036854775808 ≤ x.angle ∧ x.angle ≤ 9223372036854775807
theorem Hung.fits {cs : List PV} (h : fitsL [.str, .int .i64, .int .i64, .int .i64, .int .i64] cs) : ∃ x : Hung, cs = x.cells ∧ x.wf := by
 obtain ⟨_, _, rfl, h0, h⟩ := qak h
 obtain ⟨_, _, rfl, h1, h⟩ := qak h
 obtain ⟨_, _, rfl, h2, h⟩ := qak h
 obtain ⟨_, _, rfl, h3, h⟩ := qak h
 obtain ⟨_, _, rfl, h4, h⟩ := qak h
 obtain rfl := qbV h
 obtain ⟨v0, rfl, w0⟩ := qcF h0
 obtain ⟨v1, rfl, w1⟩ := qan h1
 obtain ⟨v2, rfl, w2⟩ := qan h2
 obtain ⟨v3, rfl, w3⟩ := qan h3
 obtain ⟨v4, rfl, w4⟩ := qan h4
 exact ⟨⟨v0, v1, v2, v3, v4⟩, rfl, w0, (lit64 w1).1, (lit64 w1).2, (lit64 w2).1, (lit64 w2).2, (lit64 w3).1, (lit64 w3).2, (lit64 w4).1, (lit64 w4).2⟩
theorem Hung.fitsS {rows : List (List PV)} (h : ∀ r ∈ rows, fitsL [.str, .int .i64, .int .i64, .int .i64, .int .i64] r) : ∃ l : List Hung, rows = Hung.rows l ∧ ∀ x ∈ l, x.wf := qbR fun r hr => Hung.fits (h r hr)
theorem Hung.flat (l : List Hung) : qbz (Hung.rows l) := fun r hr c hc => by
 obtain ⟨x, _, rfl⟩ := List.mem_map.1 hr
 simp only [Hung.cells, List.mem_cons, List.not_mem_nil, or_false] at hc
 rcases hc with rfl | rfl | rfl | rfl | rfl <;> rfl
theorem Hung.rows_len (l : List Hung) : (Hung.rows l).length = l.length := by simp [Hung.rows]
theorem qmO (x : Hung) (left : Nat) (hl : left ≤ 1048576) (hx : x.wf) : HFn Tryz.prog 150 [.agg x.cells, .int .i64 left] [] (.int .i64 (szR x.sz left)) [] := by
 unfold Hung.wf at hx
 refine qaa hm Tryz.func150 (by kernel_rfl) rfl (by kernel_rfl) rfl qab ?_
 simp [Hung.cells, Hung.sz]
 rw [w64 (n := (left : Int) - x.bell.length) (by omega) (by omega)]
 refine ⟨fun h => by rw [qam (by omega)], fun h => by rw [qal (by omega)]⟩
theorem qmP (l : List Hung) (left : Nat) (hl : left ≤ 1048576) (hlen : l.length ≤ 9223372036854775807) (hx : ∀ x ∈ l, x.wf) : HFn Tryz.prog 59 [.sl 5 (Hung.rows l), .int .i64 left] [] (.int .i64 (szR (Hung.szS l) left)) [] := by
 refine qaa hm Tryz.func59 (by kernel_rfl) rfl (by kernel_rfl) rfl qab ?_
 simp [Hung.rows]
 rw [w64 (n := (left : Int) - l.length) (by omega) (by omega)]
 refine ⟨fun h => by rw [qam (by unfold Hung.szS; omega)], fun h => ?_⟩
 refine qac hm l.length (fun i => ⟨[(0, .sl 5 (Hung.rows l)), (1, .int .i64 (left - l.length - sumT Hung.sz l i)), (5, .int .i64 i)], []⟩) (fun i => l.length + sumT Hung.sz l i ≤ left) (by kernel_rfl) ?_ (by rw [qaV]; omega) (fun i hi hI => ?_) (fun hI => ?_)
 · exact Wk.weak (ρ := []) (φ := []) (by simp [Hung.rows, qaV])
 · have ea := List.getElem?_eq_getElem hi
   have es := qbT Hung.sz hi
   have hle := qbU Hung.sz l (i + 1)
   have e1 : (left : Int) - l.length - sumT Hung.sz l i = ((left - l.length - sumT Hung.sz l i : Nat) : Int) := by omega
   rw [e1]
   simp [Hung.rows, hi]
   refine CallZ.use0 (qmO l[i] _ (by omega) (hx _ (List.getElem_mem hi))) rfl rfl ?_
   simp
   refine ⟨fun h => ?_, fun h => ?_⟩
   · have := qaU h
     rw [qam (by unfold Hung.szS; omega)]
   · have hh := qaQ h
     refine ⟨by omega, ?_⟩
     refine Wk.weak (ρ := []) (φ := []) ?_
     simp
     rw [w64 (by omega) (by omega), qal hh]
     omega
 · simp [Hung.rows]
   rw [qbS] at hI ⊢
   rw [qal (by unfold Hung.szS; omega)]
   unfold Hung.szS
   omega
theorem qmQ (x : Hung) : HFn Tryz.prog 162 [.agg x.cells] [] (.agg x.cells) [] := by
 refine qaa hm Tryz.func162 (by kernel_rfl) rfl (by kernel_rfl) rfl qab ?_
 simp [Hung.cells]
theorem qiQ (l : List Hung) (hl : l.length ≤ 1048576) : HFn Tryz.prog 69 [.sl 5 (Hung.rows l)] [] (.sf 0 5) [some (.arr 5 (Hung.rows l))] := by
 refine qaa hm Tryz.func69 (by kernel_rfl) rfl (by kernel_rfl) rfl (qdh (ρ := [0]) (φ := [])) ?_
 simp [Hung.rows]
 refine ⟨by omega, by omega, ?_⟩
 refine qac hm l.length (fun i => ⟨[(0, .sl 5 (Hung.rows l)), (3, .sf 0 5), (4, .int .i64 i)], [some (.arr 5 ((l.take i).map Hung.cells ++ List.replicate (l.length - i) [.str [], .int .i64 0, .int .i64 0, .int .i64 0, .int .i64 0]))]⟩) (fun _ => True) (by kernel_rfl) ?_ trivial (fun i hi _ => ?_) (fun _ => ?_)
 · exact Wk.weak (ρ := [0]) (φ := []) (by simp [Hung.rows])
 · obtain ⟨X, hX, hXl, hXg⟩ := qbq Hung.cells l [.str [], .int .i64 0, .int .i64 0, .int .i64 0, .int .i64 0] hi
   rw [hX]
   have ea := List.getElem?_eq_getElem hi
   simp [Hung.rows, hi]
   refine CallZ.use0 (qmQ _) rfl rfl ?_
   simp [Hung.cells, hi, hXl, hXg]
   refine Wk.weak (ρ := [0]) (φ := []) ?_
   simp
   rw [w64 (by omega) (by omega), ← hX]
   exact ⟨rfl, qbQ Hung.cells l [.str [], .int .i64 0, .int .i64 0, .int .i64 0, .int .i64 0] hi⟩
 · simp [Hung.rows]
theorem qmR (l : List Hung) (hl : l.length ≤ 1048576) : HFn Tryz.prog 69 [.sl 5 (Hung.rows l)] [] (.sl 5 (Hung.rows l)) [] := (qiQ l hl).less (Wk.weak (ρ := []) (φ := [0]) (by simp))
theorem qmS (a b : Hung) : HFn Tryz.prog 170 [.agg a.cells, .agg b.cells] [] (.bool (decide (a = b))) [] := by
 refine qaa hm Tryz.func170 (by kernel_rfl) rfl (by kernel_rfl) rfl qab ?_
 simp [Hung.cells, Hung.eq_iff]
 grind
theorem qmT (a b : List Hung) (ha : a.length ≤ 9223372036854775807) : HFn Tryz.prog 80 [.sl 5 (Hung.rows a), .sl 5 (Hung.rows b)] [] (.bool (decide (a = b))) [] := by
 refine qaa hm Tryz.func80 (by kernel_rfl) rfl (by kernel_rfl) rfl qab ?_
 simp [Hung.rows]
 refine ⟨fun h => ?_, fun h => ?_⟩
 · exact fun e => h (by rw [e])
 · refine qac hm a.length (fun i => ⟨[(0, .sl 5 (Hung.rows a)), (1, .sl 5 (Hung.rows b)), (5, .int .i64 i)], []⟩) (fun i => a.take i = b.take i) (by kernel_rfl) ?_ (by simp) (fun i hi hI => ?_) (fun hI => ?_)
   · exact Wk.weak (ρ := []) (φ := []) (by simp [Hung.rows])
   · have hl : a.length = b.length := by omega
     have ea := List.getElem?_eq_getElem hi
     have hi' : i < b.length := by omega
     have eb := List.getElem?_eq_getElem hi'
     simp [Hung.rows, hi, hi']
     refine CallZ.use0 (qmS a[i] b[i]) rfl rfl ?_
     simp
     refine ⟨fun h e => h (by simp [e]), fun h => ⟨qcU hI ea eb h, ?_⟩⟩
     refine Wk.weak (ρ := []) (φ := []) ?_
     simp
     exact w64 (by omega) (by omega)
   · simp [Hung.rows]
     exact qcV hI (by omega)
def Hung.mark (k : Int) : Hung := ⟨markT k, k + 1, k + 1 + 1, k + 1 + 1 + 1, k + 1 + 1 + 1 + 1⟩
def Hung.marks (k : Int) (n : Nat) : List Hung := (List.range n).map fun i : Nat => Hung.mark (k + 5 * i)
theorem qmU (l : List Hung) (k : Int) (hk : 0 ≤ k) (ha : 5 * l.length + k ≤ 1000000000) : MFn Tryz.prog 90 [.sf 0 5, .int .i64 k] [some (.arr 5 (Hung.rows l))] [0] (.int .i64 (k + 5 * l.length)) [some (.arr 5 (Hung.rows (Hung.marks k l.length)))] := by
 refine qcS [0] hm Tryz.func90 (by kernel_rfl) rfl (by kernel_rfl) rfl (qcT (ρ := [0]) (φ := [])) (by simp [Hung.rows, Hung.marks]) ?_
 simp
 refine qac hm l.length (fun i => ⟨[(0, .sf 0 5), (1, .int .i64 (k + 5 * i)), (5, .int .i64 i), (49, .own 0)], [some (.arr 5 (Hung.rows (Hung.marks k i ++ l.drop i)))]⟩) (fun _ => True) (by kernel_rfl) ?_ trivial (fun i hi _ => ?_) (fun _ => ?_)
 · refine Wk.weak (ρ := [0]) (φ := []) ?_
   simp [Hung.rows, Hung.marks]
 · obtain ⟨X, hX, hl, hg⟩ := qa6 (fun j : Nat => Hung.mark (k + 5 * j)) l hi
   rw [show Hung.marks k i ++ l.drop i = X from hX]
   simp [Hung.rows, hl, hi]
   refine CallZ.use0 (qb7 _ (by omega)) rfl rfl ?_
   simp [Hung.cells, hl, hg, hi]
   rw [w64 (n := k + 5 * (i : Int) + 1) (by omega) (by omega)]
   rw [w64 (n := k + 5 * (i : Int) + 1 + 1) (by omega) (by omega)]
   rw [w64 (n := k + 5 * (i : Int) + 1 + 1 + 1) (by omega) (by omega)]
   rw [w64 (n := k + 5 * (i : Int) + 1 + 1 + 1 + 1) (by omega) (by omega)]
   rw [w64 (n := k + 5 * (i : Int) + 1 + 1 + 1 + 1 + 1) (by omega) (by omega)]
   refine Wk.weak (ρ := [0]) (φ := []) ?_
   simp
   rw [w64 (by omega) (by omega), ← hX]
   refine ⟨by omega, ?_⟩
   exact qcX Hung.cells (fun j : Nat => Hung.mark (k + 5 * j)) l hi
 · simp [Hung.rows, Hung.marks]
end Go.Proofs.YtcjpfjklhhclmaaGreatDoor
namespace Go.Proofs.YtcjpfjklhhclmaaGreatDoor
open Go Go.Ab
set_option maxRecDepth 100000
structure Chamber where
 width : Int
 length : Int
 height : Int
theorem Chamber.eq_iff {a b : Chamber} : a = b ↔ a.width = b.width ∧ a.length = b.length ∧ a.height = b.height := by cases a; cases b; simp
instance : DecidableEq Chamber := fun _ _ => decidable_of_iff _ Chamber.eq_iff.symm
def Chamber.cells (x : Chamber) : List PV := [.int .i64 x.width, .int .i64 x.length, .int .i64 x.height]
def Chamber.wf (x : Chamber) : Prop := -9223372036854775808 ≤ x.width ∧ x.width ≤ 9223372036854775807 ∧ -9223372036854775808 ≤ x.length ∧ x.length ≤ 9223372036854775807 ∧ -9223372036854775808 ≤ x.height ∧ x.height ≤ 9223372036854775807
theorem qiR (x : Chamber) : HFn Tryz.prog 70 [.agg x.cells] [] (.agg x.cells) [] := by
 refine qaa hm Tryz.func70 (by kernel_rfl) rfl (by kernel_rfl) rfl qab ?_
 simp [Chamber.cells]
theorem qmV (a b : Chamber) : HFn Tryz.prog 81 [.agg a.cells, .agg b.cells] [] (.bool (decide (a = b))) [] := by
 refine qaa hm Tryz.func81 (by kernel_rfl) rfl (by kernel_rfl) rfl qab ?_
 simp [Chamber.cells, Chamber.eq_iff]
 grind
end Go.Proofs.YtcjpfjklhhclmaaGreatDoor
namespace Go.Proofs.YtcjpfjklhhclmaaGreatDoor
open Go Go.Ab
set_option maxRecDepth 100000
structure Place where
 bell : List UInt8
 x : Int
 y : Int
 z : Int
 reach : Int
theorem Place.eq_iff {a b : Place} : a = b ↔ a.bell = b.bell ∧ a.x = b.x ∧ a.y = b.y ∧ a.z = b.z ∧ a.reach = b.reach := by cases a; cases b; simp
instance : DecidableEq Place := fun _ _ => decidable_of_iff _ Place.eq_iff.symm
def Place.cells (x : Place) : List PV := [.str x.bell, .int .i64 x.x, .int .i64 x.y, .int .i64 x.z, .int .i64 x.reach]
def Place.rows (l : List Place) : List (List PV) := l.map Place.cells
def Place.sz (x : Place) : Nat := x.bell.length
def Place.szS (l : List Place) : Nat := l.length + (l.map Place.sz).sum
def Place.wf (x : Place) : Prop := x.bell.length ≤ 9223372036854775807 ∧ -9223372036854775808 ≤ x.x ∧ x.x ≤ 9223372036854775807 ∧ -9223372036854775808 ≤ x.y ∧ x.y ≤ 9223372036854775807 ∧ -9223372036854775808 ≤ x.z ∧ x.z ≤ 9223372036854775807 ∧ -9223372036854775808 ≤ x.reach ∧ x.reach ≤ 9223372036854775807
theorem Place.fits {cs : List PV} (h : fitsL [.str, .int .i64, .int .i64, .int .i64, .int .i64] cs) : ∃ x : Place, cs = x.cells ∧ x.wf := by
 obtain ⟨_, _, rfl, h0, h⟩ := qak h
 obtain ⟨_, _, rfl, h1, h⟩ := qak h
 obtain ⟨_, _, rfl, h2, h⟩ := qak h
 obtain ⟨_, _, rfl, h3, h⟩ := qak h
 obtain ⟨_, _, rfl, h4, h⟩ := qak h
 obtain rfl := qbV h
 obtain ⟨v0, rfl, w0⟩ := qcF h0
 obtain ⟨v1, rfl, w1⟩ := qan h1
 obtain ⟨v2, rfl, w2⟩ := qan h2
 obtain ⟨v3, rfl, w3⟩ := qan h3
 obtain ⟨v4, rfl, w4⟩ := qan h4
 exact ⟨⟨v0, v1, v2, v3, v4⟩, rfl, w0, (lit64 w1).1, (lit64 w1).2, (lit64 w2).1, (lit64 w2).2, (lit64 w3).1, (lit64 w3).2, (lit64 w4).1, (lit64 w4).2⟩
theorem Place.fitsS {rows : List (List PV)} (h : ∀ r ∈ rows, fitsL [.str, .int .i64, .int .i64, .int .i64, .int .i64] r) : ∃ l : List Place, rows = Place.rows l ∧ ∀ x ∈ l, x.wf := qbR fun r hr => Place.fits (h r hr)
theorem Place.flat (l : List Place) : qbz (Place.rows l) := fun r hr c hc => by
 obtain ⟨x, _, rfl⟩ := List.mem_map.1 hr
 simp only [Place.cells, List.mem_cons, List.not_mem_nil, or_false] at hc
 rcases hc with rfl | rfl | rfl | rfl | rfl <;> rfl
theorem Place.rows_len (l : List Place) : (Place.rows l).length = l.length := by simp [Place.rows]
theorem qmW (x : Place) (left : Nat) (hl : left ≤ 1048576) (hx : x.wf) : HFn Tryz.prog 151 [.agg x.cells, .int .i64 left] [] (.int .i64 (szR x.sz left)) [] := by
 unfold Place.wf at hx
 refine qaa hm Tryz.func151 (by kernel_rfl) rfl (by kernel_rfl) rfl qab ?_
 simp [Place.cells, Place.sz]
 rw [w64 (n := (left : Int) - x.bell.length) (by omega) (by omega)]
 refine ⟨fun h => by rw [qam (by omega)], fun h => by rw [qal (by omega)]⟩
theorem qmX (l : List Place) (left : Nat) (hl : left ≤ 1048576) (hlen : l.length ≤ 9223372036854775807) (hx : ∀ x ∈ l, x.wf) : HFn Tryz.prog 60 [.sl 5 (Place.rows l), .int .i64 left] [] (.int .i64 (szR (Place.szS l) left)) [] := by
 refine qaa hm Tryz.func60 (by kernel_rfl) rfl (by kernel_rfl) rfl qab ?_
 simp [Place.rows]
 rw [w64 (n := (left : Int) - l.length) (by omega) (by omega)]
 refine ⟨fun h => by rw [qam (by unfold Place.szS; omega)], fun h => ?_⟩
 refine qac hm l.length (fun i => ⟨[(0, .sl 5 (Place.rows l)), (1, .int .i64 (left - l.length - sumT Place.sz l i)), (5, .int .i64 i)], []⟩) (fun i => l.length + sumT Place.sz l i ≤ left) (by kernel_rfl) ?_ (by rw [qaV]; omega) (fun i hi hI => ?_) (fun hI => ?_)
 · exact Wk.weak (ρ := []) (φ := []) (by simp [Place.rows, qaV])
 · have ea := List.getElem?_eq_getElem hi
   have es := qbT Place.sz hi
   have hle := qbU Place.sz l (i + 1)
   have e1 : (left : Int) - l.length - sumT Place.sz l i = ((left - l.length - sumT Place.sz l i : Nat) : Int) := by omega
   rw [e1]
   simp [Place.rows, hi]
   refine CallZ.use0 (qmW l[i] _ (by omega) (hx _ (List.getElem_mem hi))) rfl rfl ?_
   simp
   refine ⟨fun h => ?_, fun h => ?_⟩
   · have := qaU h
     rw [qam (by unfold Place.szS; omega)]
   · have hh := qaQ h
     refine ⟨by omega, ?_⟩
     refine Wk.weak (ρ := []) (φ := []) ?_
     simp
     rw [w64 (by omega) (by omega), qal hh]
     omega
 · simp [Place.rows]
   rw [qbS] at hI ⊢
   rw [qal (by unfold Place.szS; omega)]
   unfold Place.szS
   omega
theorem qmY (x : Place) : HFn Tryz.prog 163 [.agg x.cells] [] (.agg x.cells) [] := by
 refine qaa hm Tryz.func163 (by kernel_rfl) rfl (by kernel_rfl) rfl qab ?_
 simp [Place.cells]
theorem qiS (l : List Place) (hl : l.length ≤ 1048576) : HFn Tryz.prog 71 [.sl 5 (Place.rows l)] [] (.sf 0 5) [some (.arr 5 (Place.rows l))] := by
 refine qaa hm Tryz.func71 (by kernel_rfl) rfl (by kernel_rfl) rfl (qdh (ρ := [0]) (φ := [])) ?_
 simp [Place.rows]
 refine ⟨by omega, by omega, ?_⟩
 refine qac hm l.length (fun i => ⟨[(0, .sl 5 (Place.rows l)), (3, .sf 0 5), (4, .int .i64 i)], [some (.arr 5 ((l.take i).map Place.cells ++ List.replicate (l.length - i) [.str [], .int .i64 0, .int .i64 0, .int .i64 0, .int .i64 0]))]⟩) (fun _ => True) (by kernel_rfl) ?_ trivial (fun i hi _ => ?_) (fun _ => ?_)
 · exact Wk.weak (ρ := [0]) (φ := []) (by simp [Place.rows])
 · obtain ⟨X, hX, hXl, hXg⟩ := qbq Place.cells l [.str [], .int .i64 0, .int .i64 0, .int .i64 0, .int .i64 0] hi
   rw [hX]
   have ea := List.getElem?_eq_getElem hi
   simp [Place.rows, hi]
   refine CallZ.use0 (qmY _) rfl rfl ?_
   simp [Place.cells, hi, hXl, hXg]
   refine Wk.weak (ρ := [0]) (φ := []) ?_
   simp
   rw [w64 (by omega) (by omega), ← hX]
   exact ⟨rfl, qbQ Place.cells l [.str [], .int .i64 0, .int .i64 0, .int .i64 0, .int .i64 0] hi⟩
 · simp [Place.rows]
theorem qmZ (l : List Place) (hl : l.length ≤ 1048576) : HFn Tryz.prog 71 [.sl 5 (Place.rows l)] [] (.sl 5 (Place.rows l)) [] := (qiS l hl).less (Wk.weak (ρ := []) (φ := [0]) (by simp))
theorem qm0 (a b : Place) : HFn Tryz.prog 171 [.agg a.cells, .agg b.cells] [] (.bool (decide (a = b))) [] := by
 refine qaa hm Tryz.func171 (by kernel_rfl) rfl (by kernel_rfl) rfl qab ?_
 simp [Place.cells, Place.eq_iff]
 grind
theorem qm1 (a b : List Place) (ha : a.length ≤ 9223372036854775807) : HFn Tryz.prog 82 [.sl 5 (Place.rows a), .sl 5 (Place.rows b)] [] (.bool (decide (a = b))) [] := by
 refine qaa hm Tryz.func82 (by kernel_rfl) rfl (by kernel_rfl) rfl qab ?_
 simp [Place.rows]
 refine ⟨fun h => ?_, fun h => ?_⟩
 · exact fun e => h (by rw [e])
 · refine qac hm a.length (fun i => ⟨[(0, .sl 5 (Place.rows a)), (1, .sl 5 (Place.rows b)), (5, .int .i64 i)], []⟩) (fun i => a.take i = b.take i) (by kernel_rfl) ?_ (by simp) (fun i hi hI => ?_) (fun hI => ?_)
   · exact Wk.weak (ρ := []) (φ := []) (by simp [Place.rows])
   · have hl : a.length = b.length := by omega
     have ea := List.getElem?_eq_getElem hi
     have hi' : i < b.length := by omega
     have eb := List.getElem?_eq_getElem hi'
     simp [Place.rows, hi, hi']
     refine CallZ.use0 (qm0 a[i] b[i]) rfl rfl ?_
     simp
     refine ⟨fun h e => h (by simp [e]), fun h => ⟨qcU hI ea eb h, ?_⟩⟩
     refine Wk.weak (ρ := []) (φ := []) ?_
     simp
     exact w64 (by omega) (by omega)
   · simp [Place.rows]
     exact qcV hI (by omega)
def Place.mark (k : Int) : Place := ⟨markT k, k + 1, k + 1 + 1, k + 1 + 1 + 1, k + 1 + 1 + 1 + 1⟩
def Place.marks (k : Int) (n : Nat) : List Place := (List.range n).map fun i : Nat => Place.mark (k + 5 * i)
theorem qm2 (l : List Place) (k : Int) (hk : 0 ≤ k) (ha : 5 * l.length + k ≤ 1000000000) : MFn Tryz.prog 91 [.sf 0 5, .int .i64 k] [some (.arr 5 (Place.rows l))] [0] (.int .i64 (k + 5 * l.length)) [some (.arr 5 (Place.rows (Place.marks k l.length)))] := by
 refine qcS [0] hm Tryz.func91 (by kernel_rfl) rfl (by kernel_rfl) rfl (qcT (ρ := [0]) (φ := [])) (by simp [Place.rows, Place.marks]) ?_
 simp
 refine qac hm l.length (fun i => ⟨[(0, .sf 0 5), (1, .int .i64 (k + 5 * i)), (5, .int .i64 i), (49, .own 0)], [some (.arr 5 (Place.rows (Place.marks k i ++ l.drop i)))]⟩) (fun _ => True) (by kernel_rfl) ?_ trivial (fun i hi _ => ?_) (fun _ => ?_)
 · refine Wk.weak (ρ := [0]) (φ := []) ?_
   simp [Place.rows, Place.marks]
 · obtain ⟨X, hX, hl, hg⟩ := qa6 (fun j : Nat => Place.mark (k + 5 * j)) l hi
   rw [show Place.marks k i ++ l.drop i = X from hX]
   simp [Place.rows, hl, hi]
   refine CallZ.use0 (qb7 _ (by omega)) rfl rfl ?_
   simp [Place.cells, hl, hg, hi]
   rw [w64 (n := k + 5 * (i : Int) + 1) (by omega) (by omega)]
   rw [w64 (n := k + 5 * (i : Int) + 1 + 1) (by omega) (by omega)]
   rw [w64 (n := k + 5 * (i : Int) + 1 + 1 + 1) (by omega) (by omega)]
   rw [w64 (n := k + 5 * (i : Int) + 1 + 1 + 1 + 1) (by omega) (by omega)]
   rw [w64 (n := k + 5 * (i : Int) + 1 + 1 + 1 + 1 + 1) (by omega) (by omega)]
   refine Wk.weak (ρ := [0]) (φ := []) ?_
   simp
   rw [w64 (by omega) (by omega), ← hX]
   refine ⟨by omega, ?_⟩
   exact qcX Place.cells (fun j : Nat => Place.mark (k + 5 * j)) l hi
 · simp [Place.rows, Place.marks]
end Go.Proofs.YtcjpfjklhhclmaaGreatDoor
namespace Go.Proofs.YtcjpfjklhhclmaaGreatDoor
open Go Go.Ab
set_option maxRecDepth 100000
structure Tower where
 name : List UInt8
 sway : Int
 damping : Int
 stiffness : Int
 limit : Int
theorem Tower.eq_iff {a b : Tower} : a = b ↔ a.name = b.name ∧ a.sway = b.sway ∧ a.damping = b.damping ∧ a.stiffness = b.stiffness ∧ a.limit = b.limit := by cases a; cases b; simp
instance : DecidableEq Tower := fun _ _ => decidable_of_iff _ Tower.eq_iff.symm
def Tower.cells (x : Tower) : List PV := [.str x.name, .int .i64 x.sway, .int .i64 x.damping, .int .i64 x.stiffness, .int .i64 x.limit]
def Tower.sz (x : Tower) : Nat := x.name.length
def Tower.wf (x : Tower) : Prop := x.name.length ≤ 9223372036854775807 ∧ -9223372036854775808 ≤ x.sway ∧ x.sway ≤ 9223372036854775807 ∧ -9223372036854775808 ≤ x.damping ∧ x.damping ≤ 9223372036854775807 ∧ -9223372036854775808 ≤ x.stiffness ∧ x.stiffness ≤ 9223372036854775807 ∧ -9223372036854775808 ≤ x.limit ∧ x.limit ≤ 9223372036854775807
theorem qm3 (x : Tower) (left : Nat) (hl : left ≤ 1048576) (hx : x.wf) : HFn Tryz.prog 61 [.agg x.cells, .int .i64 left] [] (.int .i64 (szR x.sz left)) [] := by
 unfold Tower.wf at hx
 refine qaa hm Tryz.func61 (by kernel_rfl) rfl (by kernel_rfl) rfl qab ?_
 simp [Tower.cells, Tower.sz]
 rw [w64 (n := (left : Int) - x.name.length) (by omega) (by omega)]
 refine ⟨fun h => by rw [qam (by omega)], fun h => by rw [qal (by omega)]⟩
theorem qiT (x : Tower) : HFn Tryz.prog 72 [.agg x.cells] [] (.agg x.cells) [] := by
 refine qaa hm Tryz.func72 (by kernel_rfl) rfl (by kernel_rfl) rfl qab ?_
 simp [Tower.cells]
theorem qm4 (a b : Tower) : HFn Tryz.prog 83 [.agg a.cells, .agg b.cells] [] (.bool (decide (a = b))) [] := by
 refine qaa hm Tryz.func83 (by kernel_rfl) rfl (by kernel_rfl) rfl qab ?_
 simp [Tower.cells, Tower.eq_iff]
 grind
end Go.Proofs.YtcjpfjklhhclmaaGreatDoor
namespace Go.Proofs.YtcjpfjklhhclmaaGreatDoor
open Go Go.Ab
set_option maxRecDepth 100000
structure Share where
 melt : List UInt8
 mass : Int
theorem Share.eq_iff {a b : Share} : a = b ↔ a.melt = b.melt ∧ a.mass = b.mass := by cases a; cases b; simp
instance : DecidableEq Share := fun _ _ => decidable_of_iff _ Share.eq_iff.symm
def Share.cells (x : Share) : List PV := [.str x.melt, .int .i64 x.mass]
def Share.rows (l : List Share) : List (List PV) := l.map Share.cells
def Share.sz (x : Share) : Nat := x.melt.length
def Share.szS (l : List Share) : Nat := l.length + (l.map Share.sz).sum
def Share.wf (x : Share) : Prop := x.melt.length ≤ 9223372036854775807 ∧ -9223372036854775808 ≤ x.mass ∧ x.mass ≤ 9223372036854775807
theorem Share.fits {cs : List PV} (h : fitsL [.str, .int .i64] cs) : ∃ x : Share, cs = x.cells ∧ x.wf := by
 obtain ⟨_, _, rfl, h0, h⟩ := qak h
 obtain ⟨_, _, rfl, h1, h⟩ := qak h
 obtain rfl := qbV h
 obtain ⟨v0, rfl, w0⟩ := qcF h0
 obtain ⟨v1, rfl, w1⟩ := qan h1
 exact ⟨⟨v0, v1⟩, rfl, w0, (lit64 w1).1, (lit64 w1).2⟩
theorem Share.fitsS {rows : List (List PV)} (h : ∀ r ∈ rows, fitsL [.str, .int .i64] r) : ∃ l : List Share, rows = Share.rows l ∧ ∀ x ∈ l, x.wf := qbR fun r hr => Share.fits (h r hr)
theorem Share.flat (l : List Share) : qbz (Share.rows l) := fun r hr c hc => by
 obtain ⟨x, _, rfl⟩ := List.mem_map.1 hr
 simp only [Share.cells, List.mem_cons, List.not_mem_nil, or_false] at hc
 rcases hc with rfl | rfl <;> rfl
theorem Share.rows_len (l : List Share) : (Share.rows l).length = l.length := by simp [Share.rows]
theorem qm5 (x : Share) (left : Nat) (hl : left ≤ 1048576) (hx : x.wf) : HFn Tryz.prog 291 [.agg x.cells, .int .i64 left] [] (.int .i64 (szR x.sz left)) [] := by
 unfold Share.wf at hx
 refine qaa hm Tryz.func291 (by kernel_rfl) rfl (by kernel_rfl) rfl qab ?_
 simp [Share.cells, Share.sz]
 rw [w64 (n := (left : Int) - x.melt.length) (by omega) (by omega)]
 refine ⟨fun h => by rw [qam (by omega)], fun h => by rw [qal (by omega)]⟩
theorem qm6 (l : List Share) (left : Nat) (hl : left ≤ 1048576) (hlen : l.length ≤ 9223372036854775807) (hx : ∀ x ∈ l, x.wf) : HFn Tryz.prog 235 [.sl 2 (Share.rows l), .int .i64 left] [] (.int .i64 (szR (Share.szS l) left)) [] := by
 refine qaa hm Tryz.func235 (by kernel_rfl) rfl (by kernel_rfl) rfl qab ?_
 simp [Share.rows]
 rw [w64 (n := (left : Int) - l.length) (by omega) (by omega)]
 refine ⟨fun h => by rw [qam (by unfold Share.szS; omega)], fun h => ?_⟩
 refine qac hm l.length (fun i => ⟨[(0, .sl 2 (Share.rows l)), (1, .int .i64 (left - l.length - sumT Share.sz l i)), (5, .int .i64 i)], []⟩) (fun i => l.length + sumT Share.sz l i ≤ left) (by kernel_rfl) ?_ (by rw [qaV]; omega) (fun i hi hI => ?_) (fun hI => ?_)
 · exact Wk.weak (ρ := []) (φ := []) (by simp [Share.rows, qaV])
 · have ea := List.getElem?_eq_getElem hi
   have es := qbT Share.sz hi
   have hle := qbU Share.sz l (i + 1)
   have e1 : (left : Int) - l.length - sumT Share.sz l i = ((left - l.length - sumT Share.sz l i : Nat) : Int) := by omega
   rw [e1]
   simp [Share.rows, hi]
   refine CallZ.use0 (qm5 l[i] _ (by omega) (hx _ (List.getElem_mem hi))) rfl rfl ?_
   simp
   refine ⟨fun h => ?_, fun h => ?_⟩
   · have := qaU h
     rw [qam (by unfold Share.szS; omega)]
   · have hh := qaQ h
     refine ⟨by omega, ?_⟩
     refine Wk.weak (ρ := []) (φ := []) ?_
     simp
     rw [w64 (by omega) (by omega), qal hh]
     omega
 · simp [Share.rows]
   rw [qbS] at hI ⊢
   rw [qal (by unfold Share.szS; omega)]
   unfold Share.szS
   omega
theorem qm7 (x : Share) : HFn Tryz.prog 294 [.agg x.cells] [] (.agg x.cells) [] := by
 refine qaa hm Tryz.func294 (by kernel_rfl) rfl (by kernel_rfl) rfl qab ?_
 simp [Share.cells]
theorem qiU (l : List Share) (hl : l.length ≤ 1048576) : HFn Tryz.prog 246 [.sl 2 (Share.rows l)] [] (.sf 0 2) [some (.arr 2 (Share.rows l))] := by
 refine qaa hm Tryz.func246 (by kernel_rfl) rfl (by kernel_rfl) rfl (qdh (ρ := [0]) (φ := [])) ?_
 simp [Share.rows]
 refine ⟨by omega, by omega, ?_⟩
 refine qac hm l.length (fun i => ⟨[(0, .sl 2 (Share.rows l)), (3, .sf 0 2), (4, .int .i64 i)], [some (.arr 2 ((l.take i).map Share.cells ++ List.replicate (l.length - i) [.str [], .int .i64 0]))]⟩) (fun _ => True) (by kernel_rfl) ?_ trivial (fun i hi _ => ?_) (fun _ => ?_)
 · exact Wk.weak (ρ := [0]) (φ := []) (by simp [Share.rows])
 · obtain ⟨X, hX, hXl, hXg⟩ := qbq Share.cells l [.str [], .int .i64 0] hi
   rw [hX]
   have ea := List.getElem?_eq_getElem hi
   simp [Share.rows, hi]
   refine CallZ.use0 (qm7 _) rfl rfl ?_
   simp [Share.cells, hi, hXl, hXg]
   refine Wk.weak (ρ := [0]) (φ := []) ?_
   simp
   rw [w64 (by omega) (by omega), ← hX]
   exact ⟨rfl, qbQ Share.cells l [.str [], .int .i64 0] hi⟩
 · simp [Share.rows]
theorem qm8 (l : List Share) (hl : l.length ≤ 1048576) : HFn Tryz.prog 246 [.sl 2 (Share.rows l)] [] (.sl 2 (Share.rows l)) [] := (qiU l hl).less (Wk.weak (ρ := []) (φ := [0]) (by simp))
theorem qm9 (a b : Share) : HFn Tryz.prog 297 [.agg a.cells, .agg b.cells] [] (.bool (decide (a = b))) [] := by
 refine qaa hm Tryz.func297 (by kernel_rfl) rfl (by kernel_rfl) rfl qab ?_
 simp [Share.cells, Share.eq_iff]
 grind
theorem qna (a b : List Share) (ha : a.length ≤ 9223372036854775807) : HFn Tryz.prog 252 [.sl 2 (Share.rows a), .sl 2 (Share.rows b)] [] (.bool (decide (a = b))) [] := by
 refine qaa hm Tryz.func252 (by kernel_rfl) rfl (by kernel_rfl) rfl qab ?_
 simp [Share.rows]
 refine ⟨fun h => ?_, fun h => ?_⟩
 · exact fun e => h (by rw [e])
 · refine qac hm a.length (fun i => ⟨[(0, .sl 2 (Share.rows a)), (1, .sl 2 (Share.rows b)), (5, .int .i64 i)], []⟩) (fun i => a.take i = b.take i) (by kernel_rfl) ?_ (by simp) (fun i hi hI => ?_) (fun hI => ?_)
   · exact Wk.weak (ρ := []) (φ := []) (by simp [Share.rows])
   · have hl : a.length = b.length := by omega
     have ea := List.getElem?_eq_getElem hi
     have hi' : i < b.length := by omega
     have eb := List.getElem?_eq_getElem hi'
     simp [Share.rows, hi, hi']
     refine CallZ.use0 (qm9 a[i] b[i]) rfl rfl ?_
     simp
     refine ⟨fun h e => h (by simp [e]), fun h => ⟨qcU hI ea eb h, ?_⟩⟩
     refine Wk.weak (ρ := []) (φ := []) ?_
     simp
     exact w64 (by omega) (by omega)
   · simp [Share.rows]
     exact qcV hI (by omega)
def Share.mark (k : Int) : Share := ⟨markT k, k + 1⟩
def Share.marks (k : Int) (n : Nat) : List Share := (List.range n).map fun i : Nat => Share.mark (k + 2 * i)
theorem qnb (l : List Share) (k : Int) (hk : 0 ≤ k) (ha : 2 * l.length + k ≤ 1000000000) : MFn Tryz.prog 176 [.sf 0 2, .int .i64 k] [some (.arr 2 (Share.rows l))] [0] (.int .i64 (k + 2 * l.length)) [some (.arr 2 (Share.rows (Share.marks k l.length)))] := by
 refine qcS [0] hm Tryz.func176 (by kernel_rfl) rfl (by kernel_rfl) rfl (qcT (ρ := [0]) (φ := [])) (by simp [Share.rows, Share.marks]) ?_
 simp
 refine qac hm l.length (fun i => ⟨[(0, .sf 0 2), (1, .int .i64 (k + 2 * i)), (5, .int .i64 i), (28, .own 0)], [some (.arr 2 (Share.rows (Share.marks k i ++ l.drop i)))]⟩) (fun _ => True) (by kernel_rfl) ?_ trivial (fun i hi _ => ?_) (fun _ => ?_)
 · refine Wk.weak (ρ := [0]) (φ := []) ?_
   simp [Share.rows, Share.marks]
 · obtain ⟨X, hX, hl, hg⟩ := qa6 (fun j : Nat => Share.mark (k + 2 * j)) l hi
   rw [show Share.marks k i ++ l.drop i = X from hX]
   simp [Share.rows, hl, hi]
   refine CallZ.use0 (qb7 _ (by omega)) rfl rfl ?_
   simp [Share.cells, hl, hg, hi]
   rw [w64 (n := k + 2 * (i : Int) + 1) (by omega) (by omega)]
   rw [w64 (n := k + 2 * (i : Int) + 1 + 1) (by omega) (by omega)]
   refine Wk.weak (ρ := [0]) (φ := []) ?_
   simp
   rw [w64 (by omega) (by omega), ← hX]
   refine ⟨by omega, ?_⟩
   exact qcX Share.cells (fun j : Nat => Share.mark (k + 2 * j)) l hi
 · simp [Share.rows, Share.marks]
end Go.Proofs.YtcjpfjklhhclmaaGreatDoor
namespace Go.Proofs.YtcjpfjklhhclmaaGreatDoor
open Go Go.Ab
set_option maxRecDepth 100000
structure Load where
 k_at : Int
 weight : Int
theorem Load.eq_iff {a b : Load} : a = b ↔ a.k_at = b.k_at ∧ a.weight = b.weight := by cases a; cases b; simp
instance : DecidableEq Load := fun _ _ => decidable_of_iff _ Load.eq_iff.symm
def Load.cells (x : Load) : List PV := [.int .i64 x.k_at, .int .i64 x.weight]
def Load.rows (l : List Load) : List (List PV) := l.map Load.cells
def Load.sz (_ : Load) : Nat := 0
def Load.szS (l : List Load) : Nat := l.length + (l.map Load.sz).sum
def Load.wf (x : Load) : Prop := -9223372036854775808 ≤ x.k_at ∧ x.k_at ≤ 9223372036854775807 ∧ -9223372036854775808 ≤ x.weight ∧ x.weight ≤ 9223372036854775807
theorem Load.fits {cs : List PV} (h : fitsL [.int .i64, .int .i64] cs) : ∃ x : Load, cs = x.cells ∧ x.wf := by
 obtain ⟨_, _, rfl, h0, h⟩ := qak h
 obtain ⟨_, _, rfl, h1, h⟩ := qak h
 obtain rfl := qbV h
 obtain ⟨v0, rfl, w0⟩ := qan h0
 obtain ⟨v1, rfl, w1⟩ := qan h1
 exact ⟨⟨v0, v1⟩, rfl, (lit64 w0).1, (lit64 w0).2, (lit64 w1).1, (lit64 w1).2⟩
theorem Load.fitsS {rows : List (List PV)} (h : ∀ r ∈ rows, fitsL [.int .i64, .int .i64] r) : ∃ l : List Load, rows = Load.rows l ∧ ∀ x ∈ l, x.wf := qbR fun r hr => Load.fits (h r hr)
theorem Load.flat (l : List Load) : qbz (Load.rows l) := fun r hr c hc => by
 obtain ⟨x, _, rfl⟩ := List.mem_map.1 hr
 simp only [Load.cells, List.mem_cons, List.not_mem_nil, or_false] at hc
 rcases hc with rfl | rfl <;> rfl
theorem Load.rows_len (l : List Load) : (Load.rows l).length = l.length := by simp [Load.rows]
theorem qnc (l : List Load) (left : Nat) (hl : left ≤ 1048576) (hlen : l.length ≤ 9223372036854775807) (_hx : ∀ x ∈ l, x.wf) : HFn Tryz.prog 236 [.sl 2 (Load.rows l), .int .i64 left] [] (.int .i64 (szR (Load.szS l) left)) [] := by
 refine qaa hm Tryz.func236 (by kernel_rfl) rfl (by kernel_rfl) rfl qab ?_
 simp [Load.rows]
 rw [w64 (n := (left : Int) - l.length) (by omega) (by omega)]
 have hz : Load.szS l = l.length := by simp only [Load.szS]; rw [show (l.map Load.sz) = l.map (fun _ => 0) from rfl, qfr, Nat.add_zero]
 exact ⟨fun h => by rw [qam (by omega)], fun h => by rw [qal (by omega)]; omega⟩
theorem qnd (x : Load) : HFn Tryz.prog 295 [.agg x.cells] [] (.agg x.cells) [] := by
 refine qaa hm Tryz.func295 (by kernel_rfl) rfl (by kernel_rfl) rfl qab ?_
 simp [Load.cells]
theorem qiV (l : List Load) (hl : l.length ≤ 1048576) : HFn Tryz.prog 247 [.sl 2 (Load.rows l)] [] (.sf 0 2) [some (.arr 2 (Load.rows l))] := by
 refine qaa hm Tryz.func247 (by kernel_rfl) rfl (by kernel_rfl) rfl (qdh (ρ := [0]) (φ := [])) ?_
 simp [Load.rows]
 refine ⟨by omega, by omega, ?_⟩
 refine qac hm l.length (fun i => ⟨[(0, .sl 2 (Load.rows l)), (3, .sf 0 2), (4, .int .i64 i)], [some (.arr 2 ((l.take i).map Load.cells ++ List.replicate (l.length - i) [.int .i64 0, .int .i64 0]))]⟩) (fun _ => True) (by kernel_rfl) ?_ trivial (fun i hi _ => ?_) (fun _ => ?_)
 · exact Wk.weak (ρ := [0]) (φ := []) (by simp [Load.rows])
 · obtain ⟨X, hX, hXl, hXg⟩ := qbq Load.cells l [.int .i64 0, .int .i64 0] hi
   rw [hX]
   have ea := List.getElem?_eq_getElem hi
   simp [Load.rows, hi]
   refine CallZ.use0 (qnd _) rfl rfl ?_
   simp [Load.cells, hi, hXl, hXg]
   refine Wk.weak (ρ := [0]) (φ := []) ?_
   simp
   rw [w64 (by omega) (by omega), ← hX]
   exact ⟨rfl, qbQ Load.cells l [.int .i64 0, .int .i64 0] hi⟩
 · simp [Load.rows]
theorem qne (l : List Load) (hl : l.length ≤ 1048576) : HFn Tryz.prog 247 [.sl 2 (Load.rows l)] [] (.sl 2 (Load.rows l)) [] := (qiV l hl).less (Wk.weak (ρ := []) (φ := [0]) (by simp))
theorem qnf (a b : Load) : HFn Tryz.prog 298 [.agg a.cells, .agg b.cells] [] (.bool (decide (a = b))) [] := by
 refine qaa hm Tryz.func298 (by kernel_rfl) rfl (by kernel_rfl) rfl qab ?_
 simp [Load.cells, Load.eq_iff]
 grind
theorem qng (a b : List Load) (ha : a.length ≤ 9223372036854775807) : HFn Tryz.prog 253 [.sl 2 (Load.rows a), .sl 2 (Load.rows b)] [] (.bool (decide (a = b))) [] := by
 refine qaa hm Tryz.func253 (by kernel_rfl) rfl (by kernel_rfl) rfl qab ?_
 simp [Load.rows]
 refine ⟨fun h => ?_, fun h => ?_⟩
 · exact fun e => h (by rw [e])
 · refine qac hm a.length (fun i => ⟨[(0, .sl 2 (Load.rows a)), (1, .sl 2 (Load.rows b)), (5, .int .i64 i)], []⟩) (fun i => a.take i = b.take i) (by kernel_rfl) ?_ (by simp) (fun i hi hI => ?_) (fun hI => ?_)
   · exact Wk.weak (ρ := []) (φ := []) (by simp [Load.rows])
   · have hl : a.length = b.length := by omega
     have ea := List.getElem?_eq_getElem hi
     have hi' : i < b.length := by omega
     have eb := List.getElem?_eq_getElem hi'
     simp [Load.rows, hi, hi']
     refine CallZ.use0 (qnf a[i] b[i]) rfl rfl ?_
     simp
     refine ⟨fun h e => h (by simp [e]), fun h => ⟨qcU hI ea eb h, ?_⟩⟩
     refine Wk.weak (ρ := []) (φ := []) ?_
     simp
     exact w64 (by omega) (by omega)
   · simp [Load.rows]
     exact qcV hI (by omega)
def Load.mark (k : Int) : Load := ⟨k, k + 1⟩
def Load.marks (k : Int) (n : Nat) : List Load := (List.range n).map fun i : Nat => Load.mark (k + 2 * i)
theorem qnh (l : List Load) (k : Int) (hk : 0 ≤ k) (ha : 2 * l.length + k ≤ 1000000000) : MFn Tryz.prog 177 [.sf 0 2, .int .i64 k] [some (.arr 2 (Load.rows l))] [0] (.int .i64 (k + 2 * l.length)) [some (.arr 2 (Load.rows (Load.marks k l.length)))] := by
 refine qcS [0] hm Tryz.func177 (by kernel_rfl) rfl (by kernel_rfl) rfl (qcT (ρ := [0]) (φ := [])) (by simp [Load.rows, Load.marks]) ?_
 simp
 refine qac hm l.length (fun i => ⟨[(0, .sf 0 2), (1, .int .i64 (k + 2 * i)), (5, .int .i64 i), (27, .own 0)], [some (.arr 2 (Load.rows (Load.marks k i ++ l.drop i)))]⟩) (fun _ => True) (by kernel_rfl) ?_ trivial (fun i hi _ => ?_) (fun _ => ?_)
 · refine Wk.weak (ρ := [0]) (φ := []) ?_
   simp [Load.rows, Load.marks]
 · obtain ⟨X, hX, hl, hg⟩ := qa6 (fun j : Nat => Load.mark (k + 2 * j)) l hi
   rw [show Load.marks k i ++ l.drop i = X from hX]
   simp [Load.rows, Load.cells, hl, hg, hi]
   rw [w64 (n := k + 2 * (i : Int) + 1) (by omega) (by omega)]
   rw [w64 (n := k + 2 * (i : Int) + 1 + 1) (by omega) (by omega)]
   refine Wk.weak (ρ := [0]) (φ := []) ?_
   simp
   rw [w64 (by omega) (by omega), ← hX]
   refine ⟨by omega, ?_⟩
   exact qcX Load.cells (fun j : Nat => Load.mark (k + 2 * j)) l hi
 · simp [Load.rows, Load.marks]
end Go.Proofs.YtcjpfjklhhclmaaGreatDoor
namespace Go.Proofs.YtcjpfjklhhclmaaGreatDoor
open Go Go.Ab
set_option maxRecDepth 100000
structure Lever where
 k_in : Int
 k_out : Int
theorem Lever.eq_iff {a b : Lever} : a = b ↔ a.k_in = b.k_in ∧ a.k_out = b.k_out := by cases a; cases b; simp
instance : DecidableEq Lever := fun _ _ => decidable_of_iff _ Lever.eq_iff.symm
def Lever.cells (x : Lever) : List PV := [.int .i64 x.k_in, .int .i64 x.k_out]
def Lever.rows (l : List Lever) : List (List PV) := l.map Lever.cells
def Lever.sz (_ : Lever) : Nat := 0
def Lever.szS (l : List Lever) : Nat := l.length + (l.map Lever.sz).sum
def Lever.wf (x : Lever) : Prop := -9223372036854775808 ≤ x.k_in ∧ x.k_in ≤ 9223372036854775807 ∧ -9223372036854775808 ≤ x.k_out ∧ x.k_out ≤ 9223372036854775807
theorem Lever.fits {cs : List PV} (h : fitsL [.int .i64, .int .i64] cs) : ∃ x : Lever, cs = x.cells ∧ x.wf := by
 obtain ⟨_, _, rfl, h0, h⟩ := qak h
 obtain ⟨_, _, rfl, h1, h⟩ := qak h
 obtain rfl := qbV h
 obtain ⟨v0, rfl, w0⟩ := qan h0
 obtain ⟨v1, rfl, w1⟩ := qan h1
 exact ⟨⟨v0, v1⟩, rfl, (lit64 w0).1, (lit64 w0).2, (lit64 w1).1, (lit64 w1).2⟩
theorem Lever.fitsS {rows : List (List PV)} (h : ∀ r ∈ rows, fitsL [.int .i64, .int .i64] r) : ∃ l : List Lever, rows = Lever.rows l ∧ ∀ x ∈ l, x.wf := qbR fun r hr => Lever.fits (h r hr)
theorem Lever.flat (l : List Lever) : qbz (Lever.rows l) := fun r hr c hc => by
 obtain ⟨x, _, rfl⟩ := List.mem_map.1 hr
 simp only [Lever.cells, List.mem_cons, List.not_mem_nil, or_false] at hc
 rcases hc with rfl | rfl <;> rfl
theorem Lever.rows_len (l : List Lever) : (Lever.rows l).length = l.length := by simp [Lever.rows]
theorem qni (l : List Lever) (left : Nat) (hl : left ≤ 1048576) (hlen : l.length ≤ 9223372036854775807) (_hx : ∀ x ∈ l, x.wf) : HFn Tryz.prog 237 [.sl 2 (Lever.rows l), .int .i64 left] [] (.int .i64 (szR (Lever.szS l) left)) [] := by
 refine qaa hm Tryz.func237 (by kernel_rfl) rfl (by kernel_rfl) rfl qab ?_
 simp [Lever.rows]
 rw [w64 (n := (left : Int) - l.length) (by omega) (by omega)]
 have hz : Lever.szS l = l.length := by simp only [Lever.szS]; rw [show (l.map Lever.sz) = l.map (fun _ => 0) from rfl, qfr, Nat.add_zero]
 exact ⟨fun h => by rw [qam (by omega)], fun h => by rw [qal (by omega)]; omega⟩
theorem qnj (x : Lever) : HFn Tryz.prog 296 [.agg x.cells] [] (.agg x.cells) [] := by
 refine qaa hm Tryz.func296 (by kernel_rfl) rfl (by kernel_rfl) rfl qab ?_
 simp [Lever.cells]
theorem qiW (l : List Lever) (hl : l.length ≤ 1048576) : HFn Tryz.prog 248 [.sl 2 (Lever.rows l)] [] (.sf 0 2) [some (.arr 2 (Lever.rows l))] := by
 refine qaa hm Tryz.func248 (by kernel_rfl) rfl (by kernel_rfl) rfl (qdh (ρ := [0]) (φ := [])) ?_
 simp [Lever.rows]
 refine ⟨by omega, by omega, ?_⟩
 refine qac hm l.length (fun i => ⟨[(0, .sl 2 (Lever.rows l)), (3, .sf 0 2), (4, .int .i64 i)], [some (.arr 2 ((l.take i).map Lever.cells ++ List.replicate (l.length - i) [.int .i64 0, .int .i64 0]))]⟩) (fun _ => True) (by kernel_rfl) ?_ trivial (fun i hi _ => ?_) (fun _ => ?_)
 · exact Wk.weak (ρ := [0]) (φ := []) (by simp [Lever.rows])
 · obtain ⟨X, hX, hXl, hXg⟩ := qbq Lever.cells l [.int .i64 0, .int .i64 0] hi
   rw [hX]
   have ea := List.getElem?_eq_getElem hi
   simp [Lever.rows, hi]
   refine CallZ.use0 (qnj _) rfl rfl ?_
   simp [Lever.cells, hi, hXl, hXg]
   refine Wk.weak (ρ := [0]) (φ := []) ?_
   simp
   rw [w64 (by omega) (by omega), ← hX]
   exact ⟨rfl, qbQ Lever.cells l [.int .i64 0, .int .i64 0] hi⟩
 · simp [Lever.rows]
theorem qnk (l : List Lever) (hl : l.length ≤ 1048576) : HFn Tryz.prog 248 [.sl 2 (Lever.rows l)] [] (.sl 2 (Lever.rows l)) [] := (qiW l hl).less (Wk.weak (ρ := []) (φ := [0]) (by simp))
theorem qnl (a b : Lever) : HFn Tryz.prog 299 [.agg a.cells, .agg b.cells] [] (.bool (decide (a = b))) [] := by
 refine qaa hm Tryz.func299 (by kernel_rfl) rfl (by kernel_rfl) rfl qab ?_
 simp [Lever.cells, Lever.eq_iff]
 grind
theorem qnm (a b : List Lever) (ha : a.length ≤ 9223372036854775807) : HFn Tryz.prog 254 [.sl 2 (Lever.rows a), .sl 2 (Lever.rows b)] [] (.bool (decide (a = b))) [] := by
 refine qaa hm Tryz.func254 (by kernel_rfl) rfl (by kernel_rfl) rfl qab ?_
 simp [Lever.rows]
 refine ⟨fun h => ?_, fun h => ?_⟩
 · exact fun e => h (by rw [e])
 · refine qac hm a.length (fun i => ⟨[(0, .sl 2 (Lever.rows a)), (1, .sl 2 (Lever.rows b)), (5, .int .i64 i)], []⟩) (fun i => a.take i = b.take i) (by kernel_rfl) ?_ (by simp) (fun i hi hI => ?_) (fun hI => ?_)
   · exact Wk.weak (ρ := []) (φ := []) (by simp [Lever.rows])
   · have hl : a.length = b.length := by omega
     have ea := List.getElem?_eq_getElem hi
     have hi' : i < b.length := by omega
     have eb := List.getElem?_eq_getElem hi'
     simp [Lever.rows, hi, hi']
     refine CallZ.use0 (qnl a[i] b[i]) rfl rfl ?_
     simp
     refine ⟨fun h e => h (by simp [e]), fun h => ⟨qcU hI ea eb h, ?_⟩⟩
     refine Wk.weak (ρ := []) (φ := []) ?_
     simp
     exact w64 (by omega) (by omega)
   · simp [Lever.rows]
     exact qcV hI (by omega)
def Lever.mark (k : Int) : Lever := ⟨k, k + 1⟩
def Lever.marks (k : Int) (n : Nat) : List Lever := (List.range n).map fun i : Nat => Lever.mark (k + 2 * i)
theorem qnn (l : List Lever) (k : Int) (hk : 0 ≤ k) (ha : 2 * l.length + k ≤ 1000000000) : MFn Tryz.prog 178 [.sf 0 2, .int .i64 k] [some (.arr 2 (Lever.rows l))] [0] (.int .i64 (k + 2 * l.length)) [some (.arr 2 (Lever.rows (Lever.marks k l.length)))] := by
 refine qcS [0] hm Tryz.func178 (by kernel_rfl) rfl (by kernel_rfl) rfl (qcT (ρ := [0]) (φ := [])) (by simp [Lever.rows, Lever.marks]) ?_
 simp
 refine qac hm l.length (fun i => ⟨[(0, .sf 0 2), (1, .int .i64 (k + 2 * i)), (5, .int .i64 i), (27, .own 0)], [some (.arr 2 (Lever.rows (Lever.marks k i ++ l.drop i)))]⟩) (fun _ => True) (by kernel_rfl) ?_ trivial (fun i hi _ => ?_) (fun _ => ?_)
 · refine Wk.weak (ρ := [0]) (φ := []) ?_
   simp [Lever.rows, Lever.marks]
 · obtain ⟨X, hX, hl, hg⟩ := qa6 (fun j : Nat => Lever.mark (k + 2 * j)) l hi
   rw [show Lever.marks k i ++ l.drop i = X from hX]
   simp [Lever.rows, Lever.cells, hl, hg, hi]
   rw [w64 (n := k + 2 * (i : Int) + 1) (by omega) (by omega)]
   rw [w64 (n := k + 2 * (i : Int) + 1 + 1) (by omega) (by omega)]
   refine Wk.weak (ρ := [0]) (φ := []) ?_
   simp
   rw [w64 (by omega) (by omega), ← hX]
   refine ⟨by omega, ?_⟩
   exact qcX Lever.cells (fun j : Nat => Lever.mark (k + 2 * j)) l hi
 · simp [Lever.rows, Lever.marks]
end Go.Proofs.YtcjpfjklhhclmaaGreatDoor
namespace Go.Proofs.YtcjpfjklhhclmaaGreatDoor
open Go Go.Ab
set_option maxRecDepth 100000
structure Swing where
 bell : List UInt8
 rate : Int
 force : Int
theorem Swing.eq_iff {a b : Swing} : a = b ↔ a.bell = b.bell ∧ a.rate = b.rate ∧ a.force = b.force := by cases a; cases b; simp
instance : DecidableEq Swing := fun _ _ => decidable_of_iff _ Swing.eq_iff.symm
def Swing.cells (x : Swing) : List PV := [.str x.bell, .int .i64 x.rate, .int .i64 x.force]
def Swing.rows (l : List Swing) : List (List PV) := l.map Swing.cells
theorem Swing.flat (l : List Swing) : qbz (Swing.rows l) := fun r hr c hc => by
 obtain ⟨x, _, rfl⟩ := List.mem_map.1 hr
 simp only [Swing.cells, List.mem_cons, List.not_mem_nil, or_false] at hc
 rcases hc with rfl | rfl | rfl <;> rfl
theorem Swing.rows_len (l : List Swing) : (Swing.rows l).length = l.length := by simp [Swing.rows]
end Go.Proofs.YtcjpfjklhhclmaaGreatDoor
namespace Go.Proofs.YtcjpfjklhhclmaaGreatDoor
open Go Go.Ab
set_option maxRecDepth 100000
structure Trouble where
 kind : Int
 who : List UInt8
 what : List UInt8
theorem Trouble.eq_iff {a b : Trouble} : a = b ↔ a.kind = b.kind ∧ a.who = b.who ∧ a.what = b.what := by cases a; cases b; simp
instance : DecidableEq Trouble := fun _ _ => decidable_of_iff _ Trouble.eq_iff.symm
def Trouble.cells (x : Trouble) : List PV := [.int .i64 x.kind, .str x.who, .str x.what]
def Trouble.rows (l : List Trouble) : List (List PV) := l.map Trouble.cells
theorem Trouble.flat (l : List Trouble) : qbz (Trouble.rows l) := fun r hr c hc => by
 obtain ⟨x, _, rfl⟩ := List.mem_map.1 hr
 simp only [Trouble.cells, List.mem_cons, List.not_mem_nil, or_false] at hc
 rcases hc with rfl | rfl | rfl <;> rfl
theorem Trouble.rows_len (l : List Trouble) : (Trouble.rows l).length = l.length := by simp [Trouble.rows]
theorem Trouble.one (l : List Trouble) : Go.Ab.rowsOne (Trouble.rows l) := fun r hr => by obtain ⟨x, _, rfl⟩ := List.mem_map.1 hr; rfl
theorem qno (a b : Trouble) : HFn Tryz.prog 76 [.agg a.cells, .agg b.cells] [] (.bool (decide (a = b))) [] := by
 refine qaa hm Tryz.func76 (by kernel_rfl) rfl (by kernel_rfl) rfl qab ?_
 simp [Trouble.cells, Trouble.eq_iff]
 grind
theorem qfv (a b : List Trouble) (ha : a.length ≤ 9223372036854775807) : HFn Tryz.prog 26 [.sl 3 (Trouble.rows a), .sl 3 (Trouble.rows b)] [] (.bool (decide (a = b))) [] := by
 refine qaa hm Tryz.func26 (by kernel_rfl) rfl (by kernel_rfl) rfl qab ?_
 simp [Trouble.rows]
 refine ⟨fun h => ?_, fun h => ?_⟩
 · exact fun e => h (by rw [e])
 · refine qac hm a.length (fun i => ⟨[(0, .sl 3 (Trouble.rows a)), (1, .sl 3 (Trouble.rows b)), (5, .int .i64 i)], []⟩) (fun i => a.take i = b.take i) (by kernel_rfl) ?_ (by simp) (fun i hi hI => ?_) (fun hI => ?_)
   · exact Wk.weak (ρ := []) (φ := []) (by simp [Trouble.rows])
   · have hl : a.length = b.length := by omega
     have ea := List.getElem?_eq_getElem hi
     have hi' : i < b.length := by omega
     have eb := List.getElem?_eq_getElem hi'
     simp [Trouble.rows, hi, hi']
     refine CallZ.use0 (qno a[i] b[i]) rfl rfl ?_
     simp
     refine ⟨fun h e => h (by simp [e]), fun h => ⟨qcU hI ea eb h, ?_⟩⟩
     refine Wk.weak (ρ := []) (φ := []) ?_
     simp
     exact w64 (by omega) (by omega)
   · simp [Trouble.rows]
     exact qcV hI (by omega)
def Trouble.mark (k : Int) : Trouble := ⟨k, markT (k + 1), markT (k + 1 + 1)⟩
def Trouble.marks (k : Int) (n : Nat) : List Trouble := (List.range n).map fun i : Nat => Trouble.mark (k + 3 * i)
theorem Trouble.marks_len (k : Int) (n : Nat) : (Trouble.marks k n).length = n := by simp [Trouble.marks]
theorem qnp (l : List Trouble) (k : Int) (hk : 0 ≤ k) (ha : 3 * l.length + k ≤ 1000000000) : MFn Tryz.prog 29 [.sf 0 3, .int .i64 k] [some (.arr 3 (Trouble.rows l))] [0] (.int .i64 (k + 3 * l.length)) [some (.arr 3 (Trouble.rows (Trouble.marks k l.length)))] := by
 refine qcS [0] hm Tryz.func29 (by kernel_rfl) rfl (by kernel_rfl) rfl (qcT (ρ := [0]) (φ := [])) (by simp [Trouble.rows, Trouble.marks]) ?_
 simp
 refine qac hm l.length (fun i => ⟨[(0, .sf 0 3), (1, .int .i64 (k + 3 * i)), (5, .int .i64 i), (36, .own 0)], [some (.arr 3 (Trouble.rows (Trouble.marks k i ++ l.drop i)))]⟩) (fun _ => True) (by kernel_rfl) ?_ trivial (fun i hi _ => ?_) (fun _ => ?_)
 · refine Wk.weak (ρ := [0]) (φ := []) ?_
   simp [Trouble.rows, Trouble.marks]
 · obtain ⟨X, hX, hl, hg⟩ := qa6 (fun j : Nat => Trouble.mark (k + 3 * j)) l hi
   rw [show Trouble.marks k i ++ l.drop i = X from hX]
   simp [Trouble.rows, Trouble.cells, hl, hg, hi]
   rw [w64 (n := k + 3 * (i : Int) + 1) (by omega) (by omega)]
   refine CallZ.use0 (qb7 _ (by omega)) rfl rfl ?_
   simp [hl, hi]
   rw [w64 (n := k + 3 * (i : Int) + 1 + 1) (by omega) (by omega)]
   refine CallZ.use0 (qb7 _ (by omega)) rfl rfl ?_
   simp [hl, hi]
   rw [w64 (n := k + 3 * (i : Int) + 1 + 1 + 1) (by omega) (by omega)]
   refine Wk.weak (ρ := [0]) (φ := []) ?_
   simp
   rw [w64 (by omega) (by omega), ← hX]
   refine ⟨by omega, ?_⟩
   exact qcX Trouble.cells (fun j : Nat => Trouble.mark (k + 3 * j)) l hi
 · simp [Trouble.rows, Trouble.marks]
theorem qiX (a : List Trouble) (k : Int) (hk : 0 ≤ k) (ha : 3 * a.length + k ≤ 1000000000) (h : a = Trouble.marks k a.length) : HFn Tryz.prog 30 [.sl 3 (Trouble.rows a), .int .i64 k] [] (.int .i64 (k + 3 * a.length)) [] := by
 refine qaa hm Tryz.func30 (by kernel_rfl) rfl (by kernel_rfl) rfl qab ?_
 simp [Trouble.rows]
 refine qac hm a.length (fun i => ⟨[(0, .sl 3 (Trouble.rows a)), (1, .int .i64 (k + 3 * i)), (5, .int .i64 i)], []⟩) (fun _ => True) (by kernel_rfl) ?_ trivial (fun i hi _ => ?_) (fun _ => ?_)
 · exact Wk.weak (ρ := []) (φ := []) (by simp [Trouble.rows])
 · have e : a[i] = Trouble.mark (k + 3 * i) := by
     have h1 := List.getElem?_eq_getElem hi
     have h2 : a[i]? = (Trouble.marks k a.length)[i]? := by rw [← h]
     rw [h1] at h2
     simpa [Trouble.marks, hi] using h2
   have e1 : IntKind.i64.wrap (k + 3 * (i : Int) + 1) = k + 3 * (i : Int) + 1 := w64 (by omega) (by omega)
   have e2 : IntKind.i64.wrap (k + 3 * (i : Int) + 1 + 1) = k + 3 * (i : Int) + 1 + 1 := w64 (by omega) (by omega)
   have e3 : IntKind.i64.wrap (k + 3 * (i : Int) + 1 + 1 + 1) = k + 3 * (i : Int) + 1 + 1 + 1 := w64 (by omega) (by omega)
   have ei : IntKind.i64.wrap ((i : Int) + 1) = i + 1 := w64 (by omega) (by omega)
   simp [Trouble.rows, hi, e, Trouble.cells, Trouble.mark, e1]
   refine CallZ.use0 (qb7 _ (by omega)) rfl rfl ?_
   simp [hi, e, Trouble.cells, Trouble.mark, e2]
   refine CallZ.use0 (qb7 _ (by omega)) rfl rfl ?_
   simp [ei, e3]
   refine Wk.weak (ρ := []) (φ := []) ?_
   simp
   omega
 · simp [Trouble.rows]
end Go.Proofs.YtcjpfjklhhclmaaGreatDoor
