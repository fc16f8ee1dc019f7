/- Contracts: troubles of the tower and of the tune. No condition. -/
import Derived.Test.YtcjpfjklhhclmaaGreatDoorBl
import Derived.Test.YtcjpfjklhhclmaaGreatDoorBh
namespace Go.Proofs.YtcjpfjklhhclmaaGreatDoor
open Go Go.Ab
set_option maxRecDepth 100000
def qdT : List UInt8 := [115, 116, 97, 116, 101]
def qeX : List UInt8 := [115, 119, 97, 121]
def qdU : List UInt8 := [115, 116, 114, 101, 115, 115]
def qdV : List UInt8 := [98, 101, 110, 100, 105, 110, 103]
def qhe : List UInt8 := [98, 101, 108, 108]
def txKey : List UInt8 := [107, 101, 121]
theorem qrz : HFn Tryz.prog 116 [.int .i64 6] [] (.str qdT) [] := by
 refine qaa hm Tryz.func116 (by kernel_rfl) rfl (by kernel_rfl) rfl qab ?_
 simp [qdT]
theorem qrA : HFn Tryz.prog 241 [.int .i64 6] [] (.str qdT) [] := by
 refine qaa hm Tryz.func241 (by kernel_rfl) rfl (by kernel_rfl) rfl qab ?_
 simp
 refine CallZ.use0 (qaj _ _ _) rfl rfl ?_
 simp [qdT]
 decide
def tow0 (c : Carillon) : List Trouble := if sfine c.hung = true then (if permV c.tower (qaZ c.hung) = true then [] else [⟨5, c.tower.name, qeX⟩]) else [⟨5, c.tower.name, qdT⟩]
def qau (c : Carillon) (b : Beam) : List Trouble := if c.stress < strV b then [⟨6, b.name, qdU⟩] else if c.bending < benV b then [⟨6, b.name, qdV⟩] else []
theorem qrB (c : Carillon) (b : Beam) : (qau c b).length ≤ 1 := by
 unfold qau
 split
 · simp
 · split <;> simp
theorem qrC (c : Carillon) : (tow0 c).length ≤ 1 := by
 unfold tow0
 split
 · split <;> simp
 · simp
def qbI (c : Carillon) : List Trouble := tow0 c ++ upTo (qau c) c.frame c.frame.length
theorem qdW (c : Carillon) (i : Nat) : (tow0 c ++ upTo (qau c) c.frame i).length ≤ i + 1 := by
 have h1 := qrC c
 have h2 := qcL (qrB c) c.frame i
 rw [List.length_append]
 omega
theorem qhf {l : List Beam} (h : qcK l = true) : l.length ≤ 24 ∧ ∀ b ∈ l, BeamIn b := by
 simp only [qcK, Bool.and_eq_true, decide_eq_true_eq] at h
 exact ⟨by omega, fun b hb => qqF (qc1 h.1 b hb)⟩
set_option maxHeartbeats 8000000 in
theorem qrD (c : Carillon) (hc : CarOk c) : HFn Tryz.prog 37 [.agg c.cells] [] (.sf 0 3) [trO (qbI c)] := by
 have hl := hc.hl
 obtain ⟨hf, hbe⟩ := qhf hc.fram
 have kS := qqs c.hung (by omega)
 have eC : qdQ c.hung = sCode c.hung := by simp [qdQ, hc.hung]
 have eO : swOut c.hung = qaZ c.hung := by simp [swOut, hc.hung]
 rw [eC, eO] at kS
 have hsl := qkj c.hung
 have kP := qqD c.tower (qaZ c.hung) hc.tow (by omega)
 have kB1 := fun b hb => qqM b (hbe b hb)
 have kB2 := fun b hb => qqR b (hbe b hb)
 simp only [Tower.cells, Beam.cells] at kP kB1 kB2
 refine qaa hm Tryz.func37 (by kernel_rfl) rfl (by kernel_rfl) rfl (fun _ _ h => h) ?_
 simp [Carillon.cells]
 refine CallZ.use kS rfl (.inr ⟨Swing.flat _, trivial⟩) rfl rfl ?_
 cases hs : sfine c.hung
 · -- one of the swings is none
   have hc6 : sCode c.hung = 6 := by simp [sCode, hs]
   have ht0 : tow0 c = [⟨5, c.tower.name, qdT⟩] := by simp [tow0, hs]
   rw [hc6]
   simp
   refine CallZ.use0 qrz rfl rfl ?_
   simp
   simp [Beam.rows_len]
   refine ⟨by simp [rowsOne], ?_⟩
   refine qac hm c.frame.length (fun i => ⟨[(1, .pb 0 0), (3, .sf 1 3), (40, .sl 6 (Beam.rows c.frame)), (41, .int .i64 c.frame.length), (42, .int .i64 i)], [some (.box c.cells), trO (tow0 c ++ upTo (qau c) c.frame i)]⟩) (fun _ => True) (by kernel_rfl) ?_ trivial (fun i hi _ => ?_) (fun _ => ?_)
   · rw [qbG, List.append_nil, ht0]
     exact Wk.weak (ρ := [0, 3]) (φ := []) (by simp [Carillon.cells, Trouble.rows, Trouble.cells])
   · have w1 : IntKind.i64.wrap ((i : Int) + 1) = (i : Int) + 1 := w64 (by omega) (by omega)
     have hlen := qdW c i
     rw [qbx _ _ hi, ← List.append_assoc]
     generalize tow0 c ++ upTo (qau c) c.frame i = T at hlen ⊢
     simp [Carillon.cells, Beam.rows, Beam.cells, hi]
     refine CallZ.use0 (kB1 c.frame[i] (List.getElem_mem hi)) rfl rfl ?_
     by_cases h1 : c.stress < strV c.frame[i]
     · simp [h1, Trouble.rows_len]
       refine ⟨by simp [rowsOne], by omega, by omega, Wk.weak (ρ := [0, 1]) (φ := []) ?_⟩
       simp [w1, qau, h1, Trouble.rows, Trouble.cells, qdU]
     · simp [h1]
       refine CallZ.use0 (kB2 c.frame[i] (List.getElem_mem hi)) rfl rfl ?_
       by_cases h2 : c.bending < benV c.frame[i]
       · simp [h2, Trouble.rows_len]
         refine ⟨by simp [rowsOne], by omega, by omega, Wk.weak (ρ := [0, 1]) (φ := []) ?_⟩
         simp [w1, qau, h1, h2, Trouble.rows, Trouble.cells, qdV]
       · simp [h2]
         refine Wk.weak (ρ := [0, 1]) (φ := []) ?_
         simp [w1, qau, h1, h2]
   · simp
     exact Wk.weak (ρ := [1]) (φ := []) (by simp [qbI])
 · have hc0 : sCode c.hung = 0 := by simp [sCode, hs]
   rw [hc0]
   simp
   refine CallZ.use0 kP rfl rfl ?_
   cases hp : permV c.tower (qaZ c.hung)
   · have ht0 : tow0 c = [⟨5, c.tower.name, qeX⟩] := by simp [tow0, hs, hp]
     simp
     simp [Beam.rows_len]
     refine ⟨by simp [rowsOne], ?_⟩
     refine qac hm c.frame.length (fun i => ⟨[(1, .pb 0 0), (3, .sf 1 3), (40, .sl 6 (Beam.rows c.frame)), (41, .int .i64 c.frame.length), (42, .int .i64 i)], [some (.box c.cells), trO (tow0 c ++ upTo (qau c) c.frame i)]⟩) (fun _ => True) (by kernel_rfl) ?_ trivial (fun i hi _ => ?_) (fun _ => ?_)
     · rw [qbG, List.append_nil, ht0]
       exact Wk.weak (ρ := [0, 3]) (φ := []) (by simp [Carillon.cells, Trouble.rows, Trouble.cells, qeX])
     · have w1 : IntKind.i64.wrap ((i : Int) + 1) = (i : Int) + 1 := w64 (by omega) (by omega)
       have hlen := qdW c i
       rw [qbx _ _ hi, ← List.append_assoc]
       generalize tow0 c ++ upTo (qau c) c.frame i = T at hlen ⊢
       simp [Carillon.cells, Beam.rows, Beam.cells, hi]
       refine CallZ.use0 (kB1 c.frame[i] (List.getElem_mem hi)) rfl rfl ?_
       by_cases h1 : c.stress < strV c.frame[i]
       · simp [h1, Trouble.rows_len]
         refine ⟨by simp [rowsOne], by omega, by omega, Wk.weak (ρ := [0, 1]) (φ := []) ?_⟩
         simp [w1, qau, h1, Trouble.rows, Trouble.cells, qdU]
       · simp [h1]
         refine CallZ.use0 (kB2 c.frame[i] (List.getElem_mem hi)) rfl rfl ?_
         by_cases h2 : c.bending < benV c.frame[i]
         · simp [h2, Trouble.rows_len]
           refine ⟨by simp [rowsOne], by omega, by omega, Wk.weak (ρ := [0, 1]) (φ := []) ?_⟩
           simp [w1, qau, h1, h2, Trouble.rows, Trouble.cells, qdV]
         · simp [h2]
           refine Wk.weak (ρ := [0, 1]) (φ := []) ?_
           simp [w1, qau, h1, h2]
     · simp
       exact Wk.weak (ρ := [1]) (φ := []) (by simp [qbI])
   · have ht0 : tow0 c = [] := by simp [tow0, hs, hp]
     simp
     simp [Beam.rows_len]
     refine qac hm c.frame.length (fun i => ⟨[(1, .pb 0 0), (3, .sf 1 3), (40, .sl 6 (Beam.rows c.frame)), (41, .int .i64 c.frame.length), (42, .int .i64 i)], [some (.box c.cells), trO (tow0 c ++ upTo (qau c) c.frame i)]⟩) (fun _ => True) (by kernel_rfl) ?_ trivial (fun i hi _ => ?_) (fun _ => ?_)
     · rw [qbG, List.append_nil, ht0]
       exact (qaI (t := 3) (z := 3) rfl).trans (Wk.weak (ρ := [0, 2]) (φ := []) (by simp [Carillon.cells, Trouble.rows]))
     · have w1 : IntKind.i64.wrap ((i : Int) + 1) = (i : Int) + 1 := w64 (by omega) (by omega)
       have hlen := qdW c i
       rw [qbx _ _ hi, ← List.append_assoc]
       generalize tow0 c ++ upTo (qau c) c.frame i = T at hlen ⊢
       simp [Carillon.cells, Beam.rows, Beam.cells, hi]
       refine CallZ.use0 (kB1 c.frame[i] (List.getElem_mem hi)) rfl rfl ?_
       by_cases h1 : c.stress < strV c.frame[i]
       · simp [h1, Trouble.rows_len]
         refine ⟨by simp [rowsOne], by omega, by omega, Wk.weak (ρ := [0, 1]) (φ := []) ?_⟩
         simp [w1, qau, h1, Trouble.rows, Trouble.cells, qdU]
       · simp [h1]
         refine CallZ.use0 (kB2 c.frame[i] (List.getElem_mem hi)) rfl rfl ?_
         by_cases h2 : c.bending < benV c.frame[i]
         · simp [h2, Trouble.rows_len]
           refine ⟨by simp [rowsOne], by omega, by omega, Wk.weak (ρ := [0, 1]) (φ := []) ?_⟩
           simp [w1, qau, h1, h2, Trouble.rows, Trouble.cells, qdV]
         · simp [h2]
           refine Wk.weak (ρ := [0, 1]) (φ := []) ?_
           simp [w1, qau, h1, h2]
     · simp
       exact Wk.weak (ρ := [1]) (φ := []) (by simp [qbI])
set_option maxHeartbeats 8000000 in
theorem qrE (c : Carillon) (tl : List PV) (w : Nat) (rows : List (List PV)) (i0 : Nat) (hr : rows[i0]? = some (c.cells ++ tl)) (hc : CarOk c) : HFn Tryz.prog 157 [.pe (w + 20) rows i0 0] [] (.sf 0 3) [trO (qbI c)] := by
 have hl := hc.hl
 obtain ⟨hf, hbe⟩ := qhf hc.fram
 have kS := qqr c.hung (by omega) (qgL hc.hung).2
 have hsl := qkj c.hung
 have kP := qqE c.tower (qaZ c.hung) hc.tow (by omega)
 have kB1 := fun b hb rows i hr => qqO b (hbe b hb) rows i hr
 have kB2 := fun b hb rows i hr => qqS b (hbe b hb) rows i hr
 simp only [Tower.cells] at kP
 have hi0 : i0 < rows.length := (List.getElem?_eq_some_iff.1 hr).1
 have hx : rows[i0] = c.cells ++ tl := (List.getElem?_eq_some_iff.1 hr).2
 rw [Carillon.cells] at hr hx
 simp only [List.cons_append, List.nil_append] at hr hx
 refine qaa hm Tryz.func157 (by kernel_rfl) rfl (by kernel_rfl) rfl (fun _ _ h => h) ?_
 simp [hi0, hx]
 refine CallZ.use kS rfl (.inr ⟨Swing.flat _, trivial⟩) rfl rfl ?_
 cases hs : sfine c.hung
 · have hc6 : sCode c.hung = 6 := by simp [sCode, hs]
   have ht0 : tow0 c = [⟨5, c.tower.name, qdT⟩] := by simp [tow0, hs]
   rw [hc6]
   simp [hi0, hx]
   refine CallZ.use0 qrA rfl rfl ?_
   simp
   refine ⟨by simp [rowsOne], ?_⟩
   refine qac hm c.frame.length (fun i => ⟨[(0, .pe (w + 20) rows i0 0), (3, .sf 0 3), (6, .int .i64 i)], [trO (tow0 c ++ upTo (qau c) c.frame i)]⟩) (fun _ => True) (by kernel_rfl) ?_ trivial (fun i hi _ => ?_) (fun _ => ?_)
   · rw [qbG, List.append_nil, ht0]
     exact Wk.weak (ρ := [2]) (φ := []) (by simp [Trouble.rows, Trouble.cells])
   · have w1 : IntKind.i64.wrap ((i : Int) + 1) = (i : Int) + 1 := w64 (by omega) (by omega)
     have hlen := qdW c i
     rw [qbx _ _ hi, ← List.append_assoc]
     generalize tow0 c ++ upTo (qau c) c.frame i = T at hlen ⊢
     simp [hi0, hx, Beam.rows, hi]
     refine CallZ.use0 (kB1 c.frame[i] (List.getElem_mem hi) _ i (by simp [hi])) rfl rfl ?_
     by_cases h1 : c.stress < strV c.frame[i]
     · simp [hi0, hx, Beam.rows, Beam.cells, hi, h1, Trouble.rows_len]
       refine ⟨by simp [rowsOne], by omega, by omega, Wk.weak (ρ := [0]) (φ := []) ?_⟩
       simp [w1, qau, h1, Trouble.rows, Trouble.cells, qdU]
     · simp [hi0, hx, Beam.rows, Beam.cells, hi, h1]
       refine CallZ.use0 (kB2 c.frame[i] (List.getElem_mem hi) _ i (by simp [hi])) rfl rfl ?_
       by_cases h2 : c.bending < benV c.frame[i]
       · simp [hi0, hx, Beam.rows, Beam.cells, hi, h2, Trouble.rows_len]
         refine ⟨by simp [rowsOne], by omega, by omega, Wk.weak (ρ := [0]) (φ := []) ?_⟩
         simp [w1, qau, h1, h2, Trouble.rows, Trouble.cells, qdV]
       · simp [hi0, hx, Beam.rows, Beam.cells, hi, h2]
         refine Wk.weak (ρ := [0]) (φ := []) ?_
         simp [w1, qau, h1, h2]
   · simp [hi0, hx, Beam.rows_len]
     exact Wk.weak (ρ := [0]) (φ := []) (by simp [qbI])
 · have hc0 : sCode c.hung = 0 := by simp [sCode, hs]
   rw [hc0]
   simp [hi0, hx]
   refine CallZ.use0 kP rfl rfl ?_
   cases hp : permV c.tower (qaZ c.hung)
   · have ht0 : tow0 c = [⟨5, c.tower.name, qeX⟩] := by simp [tow0, hs, hp]
     simp [hi0, hx]
     refine ⟨by simp [rowsOne], ?_⟩
     refine qac hm c.frame.length (fun i => ⟨[(0, .pe (w + 20) rows i0 0), (3, .sf 0 3), (6, .int .i64 i)], [trO (tow0 c ++ upTo (qau c) c.frame i)]⟩) (fun _ => True) (by kernel_rfl) ?_ trivial (fun i hi _ => ?_) (fun _ => ?_)
     · rw [qbG, List.append_nil, ht0]
       exact Wk.weak (ρ := [2]) (φ := []) (by simp [Trouble.rows, Trouble.cells, qeX])
     · have w1 : IntKind.i64.wrap ((i : Int) + 1) = (i : Int) + 1 := w64 (by omega) (by omega)
       have hlen := qdW c i
       rw [qbx _ _ hi, ← List.append_assoc]
       generalize tow0 c ++ upTo (qau c) c.frame i = T at hlen ⊢
       simp [hi0, hx, Beam.rows, hi]
       refine CallZ.use0 (kB1 c.frame[i] (List.getElem_mem hi) _ i (by simp [hi])) rfl rfl ?_
       by_cases h1 : c.stress < strV c.frame[i]
       · simp [hi0, hx, Beam.rows, Beam.cells, hi, h1, Trouble.rows_len]
         refine ⟨by simp [rowsOne], by omega, by omega, Wk.weak (ρ := [0]) (φ := []) ?_⟩
         simp [w1, qau, h1, Trouble.rows, Trouble.cells, qdU]
       · simp [hi0, hx, Beam.rows, Beam.cells, hi, h1]
         refine CallZ.use0 (kB2 c.frame[i] (List.getElem_mem hi) _ i (by simp [hi])) rfl rfl ?_
         by_cases h2 : c.bending < benV c.frame[i]
         · simp [hi0, hx, Beam.rows, Beam.cells, hi, h2, Trouble.rows_len]
           refine ⟨by simp [rowsOne], by omega, by omega, Wk.weak (ρ := [0]) (φ := []) ?_⟩
           simp [w1, qau, h1, h2, Trouble.rows, Trouble.cells, qdV]
         · simp [hi0, hx, Beam.rows, Beam.cells, hi, h2]
           refine Wk.weak (ρ := [0]) (φ := []) ?_
           simp [w1, qau, h1, h2]
     · simp [hi0, hx, Beam.rows_len]
       exact Wk.weak (ρ := [0]) (φ := []) (by simp [qbI])
   · have ht0 : tow0 c = [] := by simp [tow0, hs, hp]
     simp
     skip
     refine qac hm c.frame.length (fun i => ⟨[(0, .pe (w + 20) rows i0 0), (3, .sf 0 3), (6, .int .i64 i)], [trO (tow0 c ++ upTo (qau c) c.frame i)]⟩) (fun _ => True) (by kernel_rfl) ?_ trivial (fun i hi _ => ?_) (fun _ => ?_)
     · rw [qbG, List.append_nil, ht0]
       exact (qaI (t := 3) (z := 3) rfl).trans (Wk.weak (ρ := [1]) (φ := []) (by simp [Trouble.rows]))
     · have w1 : IntKind.i64.wrap ((i : Int) + 1) = (i : Int) + 1 := w64 (by omega) (by omega)
       have hlen := qdW c i
       rw [qbx _ _ hi, ← List.append_assoc]
       generalize tow0 c ++ upTo (qau c) c.frame i = T at hlen ⊢
       simp [hi0, hx, Beam.rows, hi]
       refine CallZ.use0 (kB1 c.frame[i] (List.getElem_mem hi) _ i (by simp [hi])) rfl rfl ?_
       by_cases h1 : c.stress < strV c.frame[i]
       · simp [hi0, hx, Beam.rows, Beam.cells, hi, h1, Trouble.rows_len]
         refine ⟨by simp [rowsOne], by omega, by omega, Wk.weak (ρ := [0]) (φ := []) ?_⟩
         simp [w1, qau, h1, Trouble.rows, Trouble.cells, qdU]
       · simp [hi0, hx, Beam.rows, Beam.cells, hi, h1]
         refine CallZ.use0 (kB2 c.frame[i] (List.getElem_mem hi) _ i (by simp [hi])) rfl rfl ?_
         by_cases h2 : c.bending < benV c.frame[i]
         · simp [hi0, hx, Beam.rows, Beam.cells, hi, h2, Trouble.rows_len]
           refine ⟨by simp [rowsOne], by omega, by omega, Wk.weak (ρ := [0]) (φ := []) ?_⟩
           simp [w1, qau, h1, h2, Trouble.rows, Trouble.cells, qdV]
         · simp [hi0, hx, Beam.rows, Beam.cells, hi, h2]
           refine Wk.weak (ρ := [0]) (φ := []) ?_
           simp [w1, qau, h1, h2]
     · simp [hi0, hx, Beam.rows_len]
       exact Wk.weak (ρ := [0]) (φ := []) (by simp [qbI])
def qep (bs : List Bell) (n : Int) : Bool := bs.any fun b => decide (b.note = n)
def qb1 (c : Carillon) (n : Int) : List Trouble := if qep c.bells n = true then (if 0 ≤ keyAt c.clavier n then [] else [⟨7, noteT n, txKey⟩]) else [⟨8, noteT n, qhe⟩]
theorem qhg (c : Carillon) (n : Int) : (qb1 c n).length ≤ 1 := by
 unfold qb1
 split
 · split <;> simp
 · simp
def qc6 (c : Carillon) : List Trouble := upTo (qb1 c) (qa8 c.tune) (qa8 c.tune).length
theorem qrF (x : Tone) : HFn Tryz.prog 121 [.agg x.cells] [] (.bool true) [] := by
 refine qaa hm Tryz.func121 (by kernel_rfl) rfl (by kernel_rfl) rfl qab ?_
 simp [Tone.cells]
theorem qrG (b : Bell) (n : Int) (rows : List (List PV)) (i0 : Nat) (hr : rows[i0]? = some [.int .i64 n]) : HFn Tryz.prog 124 [.agg b.cells, .pe 1 rows i0 0] [] (.bool (decide (b.note = n))) [] := by
 have hi : i0 < rows.length := (List.getElem?_eq_some_iff.1 hr).1
 have hx0 : rows[i0] = [.int .i64 n] := (List.getElem?_eq_some_iff.1 hr).2
 refine qaa hm Tryz.func124 (by kernel_rfl) rfl (by kernel_rfl) rfl qab ?_
 simp [hi, hx0, Bell.cells]
set_option maxHeartbeats 8000000 in
theorem qrH (c : Carillon) (hc : CarOk c) : HFn Tryz.prog 38 [.agg c.cells] [] (.sf 0 3) [trO (qc6 c)] := by
 have hb := (qdN hc.bel).len
 obtain ⟨hn1, hn2⟩ := qg9 hc.tune
 have kN := qq3 c.tune 121 qrF hc.small.tones
 have kK := fun n => qrf c.clavier n hc.clav
 simp only [Tune.cells] at kN
 unfold qc6
 refine qaa hm Tryz.func38 (by kernel_rfl) rfl (by kernel_rfl) rfl (fun _ _ h => h) ?_
 simp [Carillon.cells]
 refine CallZ.use kN rfl (.inr ⟨qcm _, trivial⟩) rfl rfl ?_
 generalize qa8 c.tune = L at *
 simp [qar]
 refine qac hm L.length (fun i => ⟨[(1, .pb 0 0), (3, .sf 2 3), (10, .sf 1 1), (11, .int .i64 L.length), (12, .int .i64 i)], [some (.box c.cells), some (.arr 1 (qad L)), trO (upTo (qb1 c) L i)]⟩) (fun _ => True) (by kernel_rfl) ?_ trivial (fun i hi _ => ?_) (fun _ => ?_)
 · exact (qaI (t := 3) (z := 3) rfl).trans (Wk.weak (ρ := [0, 1, 2]) (φ := []) (by simp [Carillon.cells, qbG, Trouble.rows]))
 · have w1 : IntKind.i64.wrap ((i : Int) + 1) = (i : Int) + 1 := w64 (by omega) (by omega)
   have hlen := qcL (qhg c) L i
   obtain ⟨n0, n1⟩ := hn2 _ (List.getElem_mem hi)
   rw [qbx _ _ hi]
   generalize upTo (qb1 c) L i = T at hlen ⊢
   have eg : (qad L)[i]'(by rw [qar]; exact hi) = [.int .i64 L[i]] := by rw [qcf]
   generalize L[i] = n at *
   have kI : HFn Tryz.prog 123 [.sl 5 (Bell.rows c.bells), .fn 124 [.pe 1 [[.int .i64 n]] 0 0]] [] (.bool (qep c.bells n)) [] :=
     qo7 124 1 [[.int .i64 n]] 0 0 (fun b => decide (b.note = n)) c.bells (fun b _ => qrG b n _ 0 rfl) (by omega)
   simp [Carillon.cells, hi, qar, eg]
   refine CallZ.use0 (kK n) rfl rfl ?_
   simp [keyP]
   refine CallZ.use0 kI rfl rfl ?_
   cases hh : qep c.bells n
   · simp
     refine CallZ.use0 (qkN n n0 n1) rfl rfl ?_
     simp [Trouble.rows_len]
     refine ⟨by simp [rowsOne], by omega, by omega, Wk.weak (ρ := [0, 1, 2]) (φ := []) ?_⟩
     simp [w1, qb1, hh, Trouble.rows, Trouble.cells, qhe]
   · by_cases hk : 0 ≤ keyAt c.clavier n
     · simp [hk]
       refine Wk.weak (ρ := [0, 1, 2]) (φ := []) ?_
       simp [w1, qb1, hh, hk]
     · simp [hk]
       refine CallZ.use0 (qkN n n0 n1) rfl rfl ?_
       simp [Trouble.rows_len]
       refine ⟨by simp [rowsOne], by omega, by omega, Wk.weak (ρ := [0, 1, 2]) (φ := []) ?_⟩
       simp [w1, qb1, hh, hk, Trouble.rows, Trouble.cells, txKey]
 · simp
   exact Wk.weak (ρ := [2]) (φ := []) (by simp)
theorem qrI (c : Carillon) (tl : List PV) (w : Nat) (rows : List (List PV)) (i0 : Nat) (hr : rows[i0]? = some (c.cells ++ tl)) (n : Int) (hb : c.bells.length ≤ 1048576) : HFn Tryz.prog 242 [.pe (w + 20) rows i0 0, .int .i64 n] [] (.bool (qep c.bells n)) [] := by
 have hi : i0 < rows.length := (List.getElem?_eq_some_iff.1 hr).1
 have hx : rows[i0] = c.cells ++ tl := (List.getElem?_eq_some_iff.1 hr).2
 rw [Carillon.cells] at hr hx
 simp only [List.cons_append, List.nil_append] at hr hx
 refine qaa hm Tryz.func242 (by kernel_rfl) rfl (by kernel_rfl) rfl qab ?_
 simp
 refine qac hm c.bells.length (fun i => ⟨[(0, .pe (w + 20) rows i0 0), (1, .int .i64 n), (5, .int .i64 i)], []⟩) (fun i => ∀ j (h : j < c.bells.length), j < i → ¬ c.bells[j].note = n) (by kernel_rfl) ?_ (by simp) (fun i hi' hI => ?_) (fun hI => ?_)
 · exact Wk.weak (ρ := []) (φ := []) (by simp)
 · have w1 : IntKind.i64.wrap ((i : Int) + 1) = (i : Int) + 1 := w64 (by omega) (by omega)
   simp [hi, hx, Bell.rows_len, Bell.row_get, Bell.cells, hi']
   refine ⟨fun h => List.any_eq_true.2 ⟨_, List.getElem_mem hi', by simpa using h⟩, fun h => ⟨qbX hi' hI h, Wk.weak (ρ := []) (φ := []) ?_⟩⟩
   simp [w1]
 · simp [hi, hx, Bell.rows_len]
   rw [qep, List.any_eq_false]
   intro y hy
   obtain ⟨j, hj, rfl⟩ := List.getElem_of_mem hy
   simpa using hI j hj hj
set_option maxHeartbeats 8000000 in
theorem qrJ (c : Carillon) (tl : List PV) (w : Nat) (rows : List (List PV)) (i0 : Nat) (hr : rows[i0]? = some (c.cells ++ tl)) (hc : CarOk c) : HFn Tryz.prog 158 [.pe (w + 20) rows i0 0] [] (.sf 0 3) [trO (qc6 c)] := by
 have hb := (qdN hc.bel).len
 obtain ⟨hn1, hn2⟩ := qg9 hc.tune
 have kN := qrl c.tune hc.tune
 have kK := fun n => qrg c.clavier n hc.clav
 have kS := fun n => qrI c tl w rows i0 hr n (by omega)
 simp only [Tune.cells] at kN
 have hi0 : i0 < rows.length := (List.getElem?_eq_some_iff.1 hr).1
 have hx : rows[i0] = c.cells ++ tl := (List.getElem?_eq_some_iff.1 hr).2
 rw [Carillon.cells] at hr hx
 simp only [List.cons_append, List.nil_append] at hr hx
 unfold qc6
 refine qaa hm Tryz.func158 (by kernel_rfl) rfl (by kernel_rfl) rfl (fun _ _ h => h) ?_
 simp [hi0, hx]
 refine CallZ.use kN rfl (.inr ⟨qcm _, trivial⟩) rfl rfl ?_
 generalize qa8 c.tune = L at *
 simp
 refine qac hm L.length (fun i => ⟨[(0, .pe (w + 20) rows i0 0), (3, .sf 1 3), (4, .sf 0 1), (6, .int .i64 i)], [some (.arr 1 (qad L)), trO (upTo (qb1 c) L i)]⟩) (fun _ => True) (by kernel_rfl) ?_ trivial (fun i hi _ => ?_) (fun _ => ?_)
 · exact (qaI (t := 3) (z := 3) rfl).trans (Wk.weak (ρ := [0, 1]) (φ := []) (by simp [qbG, Trouble.rows]))
 · have w1 : IntKind.i64.wrap ((i : Int) + 1) = (i : Int) + 1 := w64 (by omega) (by omega)
   have hlen := qcL (qhg c) L i
   obtain ⟨n0, n1⟩ := hn2 _ (List.getElem_mem hi)
   rw [qbx _ _ hi]
   generalize upTo (qb1 c) L i = T at hlen ⊢
   have eg : (qad L)[i]'(by rw [qar]; exact hi) = [.int .i64 L[i]] := by rw [qcf]
   generalize L[i] = n at *
   simp [hi0, hx, hi, qar, eg]
   refine CallZ.use0 (kK n) rfl rfl ?_
   simp [keyP, hi, qar, eg]
   refine CallZ.use0 (kS n) rfl rfl ?_
   cases hh : qep c.bells n
   · simp [hi, qar, eg]
     refine CallZ.use0 (qkM n n0 n1) rfl rfl ?_
     simp [Trouble.rows_len]
     refine ⟨by simp [rowsOne], by omega, by omega, Wk.weak (ρ := [0, 1]) (φ := []) ?_⟩
     simp [w1, qb1, hh, Trouble.rows, Trouble.cells, qhe]
   · by_cases hk : 0 ≤ keyAt c.clavier n
     · simp [hk]
       refine Wk.weak (ρ := [0, 1]) (φ := []) ?_
       simp [w1, qb1, hh, hk]
     · simp [hk, hi, qar, eg]
       refine CallZ.use0 (qkM n n0 n1) rfl rfl ?_
       simp [Trouble.rows_len]
       refine ⟨by simp [rowsOne], by omega, by omega, Wk.weak (ρ := [0, 1]) (φ := []) ?_⟩
       simp [w1, qb1, hh, hk, Trouble.rows, Trouble.cells, txKey]
 · simp [qar]
   exact Wk.weak (ρ := [1]) (φ := []) (by simp)
end Go.Proofs.YtcjpfjklhhclmaaGreatDoor
