/- Contracts: troubles of the tower and of the tune. No condition. -/
import Derived.Test.YteckngloamnfdaaGreatDoorBl
import Derived.Test.YteckngloamnfdaaGreatDoorBh
namespace Go.Proofs.YteckngloamnfdaaGreatDoor
open Go Go.Ab
set_option maxRecDepth 100000
def qeh:List UInt8:=[115,116,97,116,101]
def qfx:List UInt8:=[115,119,97,121]
def qei:List UInt8:=[115,116,114,101,115,115]
def qej:List UInt8:=[98,101,110,100,105,110,103]
def qh1:List UInt8:=[98,101,108,108]
def txKey:List UInt8:=[107,101,121]
theorem qtI:HFn Tryz.prog 157 [.int .i64 6] [] (.str qeh) []:=by
 refine qaa hm Tryz.func157 (by kernel_rfl) rfl (by kernel_rfl) rfl qab ?_
 simp[qeh]
theorem qtJ:HFn Tryz.prog 204 [.int .i64 6] [] (.str qeh) []:=by
 refine qaa hm Tryz.func204 (by kernel_rfl) rfl (by kernel_rfl) rfl qab ?_
 simp
 refine CallZ.use0 (qaj _ _ _) rfl rfl ?_
 simp[qeh]
 decide
def tow0 (c:Carillon):List Trouble:=if sfine c.hung=true then (if permV c.tower (qa4 c.hung)=true then [] else [⟨5,c.tower.name,qfx⟩]) else [⟨5,c.tower.name,qeh⟩]
def qax (c:Carillon) (b:Beam):List Trouble:=if c.stress<strV b then [⟨6,b.name,qei⟩] else if c.bending<benV b then [⟨6,b.name,qej⟩] else []
theorem qtK (c:Carillon) (b:Beam):(qax c b).length≤1:=by
 unfold qax
 split
 ·simp
 ·split<;>simp
theorem qtL (c:Carillon):(tow0 c).length≤1:=by
 unfold tow0
 split
 ·split<;>simp
 ·simp
def qb1 (c:Carillon):List Trouble:=tow0 c++upTo (qax c) c.frame c.frame.length
theorem qek (c:Carillon) (i:Nat):(tow0 c++upTo (qax c) c.frame i).length≤i+1:=by
 have h1:=qtL c
 have h2:=qdb (qtK c) c.frame i
 rw[List.length_append]
 omega
theorem qh2 {l:List Beam} (h:qc8 l=true):l.length≤24∧∀b∈l,BeamIn b:=by
 simp only[qc8,Bool.and_eq_true,decide_eq_true_eq]at h
 exact⟨by omega,fun b hb=>qsV (qdn h.1 b hb)⟩
set_option maxHeartbeats 8000000 in
theorem qtM (c:Carillon) (hc:CarOk c):HFn Tryz.prog 76 [.agg c.cells] [] (.sf 0 3) [trO (qb1 c)]:=by
 have hl:=hc.hl
 obtain⟨hf,hbe⟩:=qh2 hc.fram
 have kS:=qpR c.hung (by omega)
 have eC:qd9 c.hung=sCode c.hung:=by simp[qd9,hc.hung]
 have eO:swOut c.hung=qa4 c.hung:=by simp[swOut,hc.hung]
 rw[eC,eO]at kS
 have hsl:=qke c.hung
 have kP:=qsT c.tower (qa4 c.hung) hc.tow (by omega)
 have kB1:=fun b hb=>qs2 b (hbe b hb)
 have kB2:=fun b hb=>qs7 b (hbe b hb)
 simp only[Tower.cells,Beam.cells]at kP kB1 kB2
 refine qaa hm Tryz.func76 (by kernel_rfl) rfl (by kernel_rfl) rfl (fun _ _ h=>h) ?_
 simp[Carillon.cells]
 refine CallZ.use kS rfl (.inr ⟨Swing.flat _,trivial⟩) rfl rfl ?_
 cases hs:sfine c.hung
 ·
  have hc6:sCode c.hung=6:=by simp[sCode,hs]
  have ht0:tow0 c=[⟨5,c.tower.name,qeh⟩]:=by simp[tow0,hs]
  rw[hc6]
  simp
  refine CallZ.use0 qtI rfl rfl ?_
  simp
  simp[Beam.rows_len]
  refine⟨by simp[rowsOne],?_⟩
  refine qac hm c.frame.length (fun i=>⟨[(1, .pb 0 0),(3, .sf 1 3),(40, .sl 6 (Beam.rows c.frame)),(41, .int .i64 c.frame.length),(42, .int .i64 i)],[some (.box c.cells),trO (tow0 c++upTo (qax c) c.frame i)]⟩) (fun _=>True) (by kernel_rfl) ?_ trivial (fun i hi _ =>?_) (fun _ =>?_)
  ·rw[qbZ,List.append_nil,ht0]
   exact Wk.weak (ρ:=[0,3]) (φ:=[]) (by simp[Carillon.cells,Trouble.rows,Trouble.cells])
  ·have w1:IntKind.i64.wrap ((i:Int)+1)=(i:Int)+1:=w64 (by omega) (by omega)
   have hlen:=qek c i
   rw[qbP _ _ hi,←List.append_assoc]
   generalize tow0 c++upTo (qax c) c.frame i=T at hlen ⊢
   simp[Carillon.cells,Beam.rows,Beam.cells,hi]
   refine CallZ.use0 (kB1 c.frame[i] (List.getElem_mem hi)) rfl rfl ?_
   by_cases h1:c.stress<strV c.frame[i]
   ·simp[h1,Trouble.rows_len]
    refine⟨by simp[rowsOne],by omega,by omega,Wk.weak (ρ:=[0,1]) (φ:=[]) ?_⟩
    simp[w1,qax,h1,Trouble.rows,Trouble.cells,qei]
   ·simp[h1]
    refine CallZ.use0 (kB2 c.frame[i] (List.getElem_mem hi)) rfl rfl ?_
    by_cases h2:c.bending<benV c.frame[i]
    ·simp[h2,Trouble.rows_len]
     refine⟨by simp[rowsOne],by omega,by omega,Wk.weak (ρ:=[0,1]) (φ:=[]) ?_⟩
     simp[w1,qax,h1,h2,Trouble.rows,Trouble.cells,qej]
    ·simp[h2]
     refine Wk.weak (ρ:=[0,1]) (φ:=[]) ?_
     simp[w1,qax,h1,h2]
  ·simp
   exact Wk.weak (ρ:=[1]) (φ:=[]) (by simp[qb1])
 ·have hc0:sCode c.hung=0:=by simp[sCode,hs]
  rw[hc0]
  simp
  refine CallZ.use0 kP rfl rfl ?_
  cases hp:permV c.tower (qa4 c.hung)
  ·have ht0:tow0 c=[⟨5,c.tower.name,qfx⟩]:=by simp[tow0,hs,hp]
   simp
   simp[Beam.rows_len]
   refine⟨by simp[rowsOne],?_⟩
   refine qac hm c.frame.length (fun i=>⟨[(1, .pb 0 0),(3, .sf 1 3),(40, .sl 6 (Beam.rows c.frame)),(41, .int .i64 c.frame.length),(42, .int .i64 i)],[some (.box c.cells),trO (tow0 c++upTo (qax c) c.frame i)]⟩) (fun _=>True) (by kernel_rfl) ?_ trivial (fun i hi _ =>?_) (fun _ =>?_)
   ·rw[qbZ,List.append_nil,ht0]
    exact Wk.weak (ρ:=[0,3]) (φ:=[]) (by simp[Carillon.cells,Trouble.rows,Trouble.cells,qfx])
   ·have w1:IntKind.i64.wrap ((i:Int)+1)=(i:Int)+1:=w64 (by omega) (by omega)
    have hlen:=qek c i
    rw[qbP _ _ hi,←List.append_assoc]
    generalize tow0 c++upTo (qax c) c.frame i=T at hlen ⊢
    simp[Carillon.cells,Beam.rows,Beam.cells,hi]
    refine CallZ.use0 (kB1 c.frame[i] (List.getElem_mem hi)) rfl rfl ?_
    by_cases h1:c.stress<strV c.frame[i]
    ·simp[h1,Trouble.rows_len]
     refine⟨by simp[rowsOne],by omega,by omega,Wk.weak (ρ:=[0,1]) (φ:=[]) ?_⟩
     simp[w1,qax,h1,Trouble.rows,Trouble.cells,qei]
    ·simp[h1]
     refine CallZ.use0 (kB2 c.frame[i] (List.getElem_mem hi)) rfl rfl ?_
     by_cases h2:c.bending<benV c.frame[i]
     ·simp[h2,Trouble.rows_len]
      refine⟨by simp[rowsOne],by omega,by omega,Wk.weak (ρ:=[0,1]) (φ:=[]) ?_⟩
      simp[w1,qax,h1,h2,Trouble.rows,Trouble.cells,qej]
     ·simp[h2]
      refine Wk.weak (ρ:=[0,1]) (φ:=[]) ?_
      simp[w1,qax,h1,h2]
   ·simp
    exact Wk.weak (ρ:=[1]) (φ:=[]) (by simp[qb1])
  ·have ht0:tow0 c=[]:=by simp[tow0,hs,hp]
   simp
   simp[Beam.rows_len]
   refine qac hm c.frame.length (fun i=>⟨[(1, .pb 0 0),(3, .sf 1 3),(40, .sl 6 (Beam.rows c.frame)),(41, .int .i64 c.frame.length),(42, .int .i64 i)],[some (.box c.cells),trO (tow0 c++upTo (qax c) c.frame i)]⟩) (fun _=>True) (by kernel_rfl) ?_ trivial (fun i hi _ =>?_) (fun _ =>?_)
   ·rw[qbZ,List.append_nil,ht0]
    exact (qaA (t:=3) (z:=3) rfl).trans (Wk.weak (ρ:=[0,2]) (φ:=[]) (by simp[Carillon.cells,Trouble.rows]))
   ·have w1:IntKind.i64.wrap ((i:Int)+1)=(i:Int)+1:=w64 (by omega) (by omega)
    have hlen:=qek c i
    rw[qbP _ _ hi,←List.append_assoc]
    generalize tow0 c++upTo (qax c) c.frame i=T at hlen ⊢
    simp[Carillon.cells,Beam.rows,Beam.cells,hi]
    refine CallZ.use0 (kB1 c.frame[i] (List.getElem_mem hi)) rfl rfl ?_
    by_cases h1:c.stress<strV c.frame[i]
    ·simp[h1,Trouble.rows_len]
     refine⟨by simp[rowsOne],by omega,by omega,Wk.weak (ρ:=[0,1]) (φ:=[]) ?_⟩
     simp[w1,qax,h1,Trouble.rows,Trouble.cells,qei]
    ·simp[h1]
     refine CallZ.use0 (kB2 c.frame[i] (List.getElem_mem hi)) rfl rfl ?_
     by_cases h2:c.bending<benV c.frame[i]
     ·simp[h2,Trouble.rows_len]
      refine⟨by simp[rowsOne],by omega,by omega,Wk.weak (ρ:=[0,1]) (φ:=[]) ?_⟩
      simp[w1,qax,h1,h2,Trouble.rows,Trouble.cells,qej]
     ·simp[h2]
      refine Wk.weak (ρ:=[0,1]) (φ:=[]) ?_
      simp[w1,qax,h1,h2]
   ·simp
    exact Wk.weak (ρ:=[1]) (φ:=[]) (by simp[qb1])
set_option maxHeartbeats 8000000 in
theorem qtN (c:Carillon) (tl:List PV) (w:Nat) (rows:List (List PV)) (i0:Nat) (hr:rows[i0]?=some (c.cells++tl)) (hc:CarOk c):HFn Tryz.prog 124 [.pe (w+20) rows i0 0] [] (.sf 0 3) [trO (qb1 c)]:=by
 have hl:=hc.hl
 obtain⟨hf,hbe⟩:=qh2 hc.fram
 have kS:=qpQ c.hung (by omega) (qhq hc.hung).2
 have hsl:=qke c.hung
 have kP:=qsU c.tower (qa4 c.hung) hc.tow (by omega)
 have kB1:=fun b hb rows i hr=>qs4 b (hbe b hb) rows i hr
 have kB2:=fun b hb rows i hr=>qs8 b (hbe b hb) rows i hr
 simp only[Tower.cells]at kP
 have hi0:i0<rows.length:=(List.getElem?_eq_some_iff.1 hr).1
 have hx:rows[i0]=c.cells++tl:=(List.getElem?_eq_some_iff.1 hr).2
 rw[Carillon.cells]at hr hx
 simp only[List.cons_append,List.nil_append]at hr hx
 refine qaa hm Tryz.func124 (by kernel_rfl) rfl (by kernel_rfl) rfl (fun _ _ h=>h) ?_
 simp[hi0,hx]
 refine CallZ.use kS rfl (.inr ⟨Swing.flat _,trivial⟩) rfl rfl ?_
 cases hs:sfine c.hung
 ·have hc6:sCode c.hung=6:=by simp[sCode,hs]
  have ht0:tow0 c=[⟨5,c.tower.name,qeh⟩]:=by simp[tow0,hs]
  rw[hc6]
  simp[hi0,hx]
  refine CallZ.use0 qtJ rfl rfl ?_
  simp
  refine⟨by simp[rowsOne],?_⟩
  refine qac hm c.frame.length (fun i=>⟨[(0, .pe (w+20) rows i0 0),(3, .sf 0 3),(6, .int .i64 i)],[trO (tow0 c++upTo (qax c) c.frame i)]⟩) (fun _=>True) (by kernel_rfl) ?_ trivial (fun i hi _ =>?_) (fun _ =>?_)
  ·rw[qbZ,List.append_nil,ht0]
   exact Wk.weak (ρ:=[2]) (φ:=[]) (by simp[Trouble.rows,Trouble.cells])
  ·have w1:IntKind.i64.wrap ((i:Int)+1)=(i:Int)+1:=w64 (by omega) (by omega)
   have hlen:=qek c i
   rw[qbP _ _ hi,←List.append_assoc]
   generalize tow0 c++upTo (qax c) c.frame i=T at hlen ⊢
   simp[hi0,hx,Beam.rows,hi]
   refine CallZ.use0 (kB1 c.frame[i] (List.getElem_mem hi) _ i (by simp[hi])) rfl rfl ?_
   by_cases h1:c.stress<strV c.frame[i]
   ·simp[hi0,hx,Beam.rows,Beam.cells,hi,h1,Trouble.rows_len]
    refine⟨by simp[rowsOne],by omega,by omega,Wk.weak (ρ:=[0]) (φ:=[]) ?_⟩
    simp[w1,qax,h1,Trouble.rows,Trouble.cells,qei]
   ·simp[hi0,hx,Beam.rows,Beam.cells,hi,h1]
    refine CallZ.use0 (kB2 c.frame[i] (List.getElem_mem hi) _ i (by simp[hi])) rfl rfl ?_
    by_cases h2:c.bending<benV c.frame[i]
    ·simp[hi0,hx,Beam.rows,Beam.cells,hi,h2,Trouble.rows_len]
     refine⟨by simp[rowsOne],by omega,by omega,Wk.weak (ρ:=[0]) (φ:=[]) ?_⟩
     simp[w1,qax,h1,h2,Trouble.rows,Trouble.cells,qej]
    ·simp[hi0,hx,Beam.rows,Beam.cells,hi,h2]
     refine Wk.weak (ρ:=[0]) (φ:=[]) ?_
     simp[w1,qax,h1,h2]
  ·simp[hi0,hx,Beam.rows_len]
   exact Wk.weak (ρ:=[0]) (φ:=[]) (by simp[qb1])
 ·have hc0:sCode c.hung=0:=by simp[sCode,hs]
  rw[hc0]
  simp[hi0,hx]
  refine CallZ.use0 kP rfl rfl ?_
  cases hp:permV c.tower (qa4 c.hung)
  ·have ht0:tow0 c=[⟨5,c.tower.name,qfx⟩]:=by simp[tow0,hs,hp]
   simp[hi0,hx]
   refine⟨by simp[rowsOne],?_⟩
   refine qac hm c.frame.length (fun i=>⟨[(0, .pe (w+20) rows i0 0),(3, .sf 0 3),(6, .int .i64 i)],[trO (tow0 c++upTo (qax c) c.frame i)]⟩) (fun _=>True) (by kernel_rfl) ?_ trivial (fun i hi _ =>?_) (fun _ =>?_)
   ·rw[qbZ,List.append_nil,ht0]
    exact Wk.weak (ρ:=[2]) (φ:=[]) (by simp[Trouble.rows,Trouble.cells,qfx])
   ·have w1:IntKind.i64.wrap ((i:Int)+1)=(i:Int)+1:=w64 (by omega) (by omega)
    have hlen:=qek c i
    rw[qbP _ _ hi,←List.append_assoc]
    generalize tow0 c++upTo (qax c) c.frame i=T at hlen ⊢
    simp[hi0,hx,Beam.rows,hi]
    refine CallZ.use0 (kB1 c.frame[i] (List.getElem_mem hi) _ i (by simp[hi])) rfl rfl ?_
    by_cases h1:c.stress<strV c.frame[i]
    ·simp[hi0,hx,Beam.rows,Beam.cells,hi,h1,Trouble.rows_len]
     refine⟨by simp[rowsOne],by omega,by omega,Wk.weak (ρ:=[0]) (φ:=[]) ?_⟩
     simp[w1,qax,h1,Trouble.rows,Trouble.cells,qei]
    ·simp[hi0,hx,Beam.rows,Beam.cells,hi,h1]
     refine CallZ.use0 (kB2 c.frame[i] (List.getElem_mem hi) _ i (by simp[hi])) rfl rfl ?_
     by_cases h2:c.bending<benV c.frame[i]
     ·simp[hi0,hx,Beam.rows,Beam.cells,hi,h2,Trouble.rows_len]
      refine⟨by simp[rowsOne],by omega,by omega,Wk.weak (ρ:=[0]) (φ:=[]) ?_⟩
      simp[w1,qax,h1,h2,Trouble.rows,Trouble.cells,qej]
     ·simp[hi0,hx,Beam.rows,Beam.cells,hi,h2]
      refine Wk.weak (ρ:=[0]) (φ:=[]) ?_
      simp[w1,qax,h1,h2]
   ·simp[hi0,hx,Beam.rows_len]
    exact Wk.weak (ρ:=[0]) (φ:=[]) (by simp[qb1])
  ·have ht0:tow0 c=[]:=by simp[tow0,hs,hp]
   simp
   skip
   refine qac hm c.frame.length (fun i=>⟨[(0, .pe (w+20) rows i0 0),(3, .sf 0 3),(6, .int .i64 i)],[trO (tow0 c++upTo (qax c) c.frame i)]⟩) (fun _=>True) (by kernel_rfl) ?_ trivial (fun i hi _ =>?_) (fun _ =>?_)
   ·rw[qbZ,List.append_nil,ht0]
    exact (qaA (t:=3) (z:=3) rfl).trans (Wk.weak (ρ:=[1]) (φ:=[]) (by simp[Trouble.rows]))
   ·have w1:IntKind.i64.wrap ((i:Int)+1)=(i:Int)+1:=w64 (by omega) (by omega)
    have hlen:=qek c i
    rw[qbP _ _ hi,←List.append_assoc]
    generalize tow0 c++upTo (qax c) c.frame i=T at hlen ⊢
    simp[hi0,hx,Beam.rows,hi]
    refine CallZ.use0 (kB1 c.frame[i] (List.getElem_mem hi) _ i (by simp[hi])) rfl rfl ?_
    by_cases h1:c.stress<strV c.frame[i]
    ·simp[hi0,hx,Beam.rows,Beam.cells,hi,h1,Trouble.rows_len]
     refine⟨by simp[rowsOne],by omega,by omega,Wk.weak (ρ:=[0]) (φ:=[]) ?_⟩
     simp[w1,qax,h1,Trouble.rows,Trouble.cells,qei]
    ·simp[hi0,hx,Beam.rows,Beam.cells,hi,h1]
     refine CallZ.use0 (kB2 c.frame[i] (List.getElem_mem hi) _ i (by simp[hi])) rfl rfl ?_
     by_cases h2:c.bending<benV c.frame[i]
     ·simp[hi0,hx,Beam.rows,Beam.cells,hi,h2,Trouble.rows_len]
      refine⟨by simp[rowsOne],by omega,by omega,Wk.weak (ρ:=[0]) (φ:=[]) ?_⟩
      simp[w1,qax,h1,h2,Trouble.rows,Trouble.cells,qej]
     ·simp[hi0,hx,Beam.rows,Beam.cells,hi,h2]
      refine Wk.weak (ρ:=[0]) (φ:=[]) ?_
      simp[w1,qax,h1,h2]
   ·simp[hi0,hx,Beam.rows_len]
    exact Wk.weak (ρ:=[0]) (φ:=[]) (by simp[qb1])
def qeT (bs:List Bell) (n:Int):Bool:=bs.any fun b=>decide (b.note=n)
def qcl (c:Carillon) (n:Int):List Trouble:=if qeT c.bells n=true then (if 0≤keyAt c.clavier n then [] else [⟨7,noteT n,txKey⟩]) else [⟨8,noteT n,qh1⟩]
theorem qh3 (c:Carillon) (n:Int):(qcl c n).length≤1:=by
 unfold qcl
 split
 ·split<;>simp
 ·simp
def qdu (c:Carillon):List Trouble:=upTo (qcl c) (qbh c.tune) (qbh c.tune).length
theorem qtO (x:Tone):HFn Tryz.prog 162 [.agg x.cells] [] (.bool true) []:=by
 refine qaa hm Tryz.func162 (by kernel_rfl) rfl (by kernel_rfl) rfl qab ?_
 simp[Tone.cells]
theorem qtP (b:Bell) (n:Int) (rows:List (List PV)) (i0:Nat) (hr:rows[i0]?=some [.int .i64 n]):HFn Tryz.prog 165 [.agg b.cells, .pe 1 rows i0 0] [] (.bool (decide (b.note=n))) []:=by
 have hi:i0<rows.length:=(List.getElem?_eq_some_iff.1 hr).1
 have hx0:rows[i0]=[.int .i64 n]:=(List.getElem?_eq_some_iff.1 hr).2
 refine qaa hm Tryz.func165 (by kernel_rfl) rfl (by kernel_rfl) rfl qab ?_
 simp[hi,hx0,Bell.cells]
set_option maxHeartbeats 8000000 in
theorem qtQ (c:Carillon) (hc:CarOk c):HFn Tryz.prog 77 [.agg c.cells] [] (.sf 0 3) [trO (qdu c)]:=by
 have hb:=(qec hc.bel).len
 obtain⟨hn1,hn2⟩:=qhW hc.tune
 have kN:=qte c.tune 162 qtO hc.small.tones
 have kK:=fun n=>qto c.clavier n hc.clav
 simp only[Tune.cells]at kN
 unfold qdu
 refine qaa hm Tryz.func77 (by kernel_rfl) rfl (by kernel_rfl) rfl (fun _ _ h=>h) ?_
 simp[Carillon.cells]
 refine CallZ.use kN rfl (.inr ⟨qcc _,trivial⟩) rfl rfl ?_
 generalize qbh c.tune=L at *
 simp[qao]
 refine qac hm L.length (fun i=>⟨[(1, .pb 0 0),(3, .sf 2 3),(10, .sf 1 1),(11, .int .i64 L.length),(12, .int .i64 i)],[some (.box c.cells),some (.arr 1 (qad L)),trO (upTo (qcl c) L i)]⟩) (fun _=>True) (by kernel_rfl) ?_ trivial (fun i hi _ =>?_) (fun _ =>?_)
 ·exact (qaA (t:=3) (z:=3) rfl).trans (Wk.weak (ρ:=[0,1,2]) (φ:=[]) (by simp[Carillon.cells,qbZ,Trouble.rows]))
 ·have w1:IntKind.i64.wrap ((i:Int)+1)=(i:Int)+1:=w64 (by omega) (by omega)
  have hlen:=qdb (qh3 c) L i
  obtain⟨n0,n1⟩:=hn2 _ (List.getElem_mem hi)
  rw[qbP _ _ hi]
  generalize upTo (qcl c) L i=T at hlen ⊢
  have eg:(qad L)[i]'(by rw[qao]; exact hi)=[.int .i64 L[i]]:=by rw[qbN]
  generalize L[i]=n at *
  have kI:HFn Tryz.prog 164 [.sl 5 (Bell.rows c.bells), .fn 165 [.pe 1 [[.int .i64 n]] 0 0]] [] (.bool (qeT c.bells n)) [] :=
   qqd 165 1 [[.int .i64 n]] 0 0 (fun b=>decide (b.note=n)) c.bells (fun b _=>qtP b n _ 0 rfl) (by omega)
  simp[Carillon.cells,hi,qao,eg]
  refine CallZ.use0 (kK n) rfl rfl ?_
  simp[keyP]
  refine CallZ.use0 kI rfl rfl ?_
  cases hh:qeT c.bells n
  ·simp
   refine CallZ.use0 (ql0 n n0 n1) rfl rfl ?_
   simp[Trouble.rows_len]
   refine⟨by simp[rowsOne],by omega,by omega,Wk.weak (ρ:=[0,1,2]) (φ:=[]) ?_⟩
   simp[w1,qcl,hh,Trouble.rows,Trouble.cells,qh1]
  ·by_cases hk:0≤keyAt c.clavier n
   ·simp[hk]
    refine Wk.weak (ρ:=[0,1,2]) (φ:=[]) ?_
    simp[w1,qcl,hh,hk]
   ·simp[hk]
    refine CallZ.use0 (ql0 n n0 n1) rfl rfl ?_
    simp[Trouble.rows_len]
    refine⟨by simp[rowsOne],by omega,by omega,Wk.weak (ρ:=[0,1,2]) (φ:=[]) ?_⟩
    simp[w1,qcl,hh,hk,Trouble.rows,Trouble.cells,txKey]
 ·simp
  exact Wk.weak (ρ:=[2]) (φ:=[]) (by simp)
theorem qtR (c:Carillon) (tl:List PV) (w:Nat) (rows:List (List PV)) (i0:Nat) (hr:rows[i0]?=some (c.cells++tl)) (n:Int) (hb:c.bells.length≤1048576):HFn Tryz.prog 210 [.pe (w+20) rows i0 0, .int .i64 n] [] (.bool (qeT c.bells n)) []:=by
 have hi:i0<rows.length:=(List.getElem?_eq_some_iff.1 hr).1
 have hx:rows[i0]=c.cells++tl:=(List.getElem?_eq_some_iff.1 hr).2
 rw[Carillon.cells]at hr hx
 simp only[List.cons_append,List.nil_append]at hr hx
 refine qaa hm Tryz.func210 (by kernel_rfl) rfl (by kernel_rfl) rfl qab ?_
 simp
 refine qac hm c.bells.length (fun i=>⟨[(0, .pe (w+20) rows i0 0),(1, .int .i64 n),(5, .int .i64 i)],[]⟩) (fun i=>∀j (h:j<c.bells.length),j<i→¬c.bells[j].note=n) (by kernel_rfl) ?_ (by simp) (fun i hi' hI =>?_) (fun hI =>?_)
 ·exact Wk.weak (ρ:=[]) (φ:=[]) (by simp)
 ·have w1:IntKind.i64.wrap ((i:Int)+1)=(i:Int)+1:=w64 (by omega) (by omega)
  simp[hi,hx,Bell.rows_len,Bell.row_get,Bell.cells,hi']
  refine⟨fun h=>List.any_eq_true.2 ⟨_,List.getElem_mem hi',by simpa using h⟩,fun h=>⟨qch hi' hI h,Wk.weak (ρ:=[]) (φ:=[]) ?_⟩⟩
  simp[w1]
 ·simp[hi,hx,Bell.rows_len]
  rw[qeT,List.any_eq_false]
  intro y hy
  obtain⟨j,hj,rfl⟩:=List.getElem_of_mem hy
  simpa using hI j hj hj
set_option maxHeartbeats 8000000 in
theorem qtS (c:Carillon) (tl:List PV) (w:Nat) (rows:List (List PV)) (i0:Nat) (hr:rows[i0]?=some (c.cells++tl)) (hc:CarOk c):HFn Tryz.prog 125 [.pe (w+20) rows i0 0] [] (.sf 0 3) [trO (qdu c)]:=by
 have hb:=(qec hc.bel).len
 obtain⟨hn1,hn2⟩:=qhW hc.tune
 have kN:=qtu c.tune hc.tune
 have kK:=fun n=>qtp c.clavier n hc.clav
 have kS:=fun n=>qtR c tl w rows i0 hr n (by omega)
 simp only[Tune.cells]at kN
 have hi0:i0<rows.length:=(List.getElem?_eq_some_iff.1 hr).1
 have hx:rows[i0]=c.cells++tl:=(List.getElem?_eq_some_iff.1 hr).2
 rw[Carillon.cells]at hr hx
 simp only[List.cons_append,List.nil_append]at hr hx
 unfold qdu
 refine qaa hm Tryz.func125 (by kernel_rfl) rfl (by kernel_rfl) rfl (fun _ _ h=>h) ?_
 simp[hi0,hx]
 refine CallZ.use kN rfl (.inr ⟨qcc _,trivial⟩) rfl rfl ?_
 generalize qbh c.tune=L at *
 simp
 refine qac hm L.length (fun i=>⟨[(0, .pe (w+20) rows i0 0),(3, .sf 1 3),(4, .sf 0 1),(6, .int .i64 i)],[some (.arr 1 (qad L)),trO (upTo (qcl c) L i)]⟩) (fun _=>True) (by kernel_rfl) ?_ trivial (fun i hi _ =>?_) (fun _ =>?_)
 ·exact (qaA (t:=3) (z:=3) rfl).trans (Wk.weak (ρ:=[0,1]) (φ:=[]) (by simp[qbZ,Trouble.rows]))
 ·have w1:IntKind.i64.wrap ((i:Int)+1)=(i:Int)+1:=w64 (by omega) (by omega)
  have hlen:=qdb (qh3 c) L i
  obtain⟨n0,n1⟩:=hn2 _ (List.getElem_mem hi)
  rw[qbP _ _ hi]
  generalize upTo (qcl c) L i=T at hlen ⊢
  have eg:(qad L)[i]'(by rw[qao]; exact hi)=[.int .i64 L[i]]:=by rw[qbN]
  generalize L[i]=n at *
  simp[hi0,hx,hi,qao,eg]
  refine CallZ.use0 (kK n) rfl rfl ?_
  simp[keyP,hi,qao,eg]
  refine CallZ.use0 (kS n) rfl rfl ?_
  cases hh:qeT c.bells n
  ·simp[hi,qao,eg]
   refine CallZ.use0 (qlZ n n0 n1) rfl rfl ?_
   simp[Trouble.rows_len]
   refine⟨by simp[rowsOne],by omega,by omega,Wk.weak (ρ:=[0,1]) (φ:=[]) ?_⟩
   simp[w1,qcl,hh,Trouble.rows,Trouble.cells,qh1]
  ·by_cases hk:0≤keyAt c.clavier n
   ·simp[hk]
    refine Wk.weak (ρ:=[0,1]) (φ:=[]) ?_
    simp[w1,qcl,hh,hk]
   ·simp[hk,hi,qao,eg]
    refine CallZ.use0 (qlZ n n0 n1) rfl rfl ?_
    simp[Trouble.rows_len]
    refine⟨by simp[rowsOne],by omega,by omega,Wk.weak (ρ:=[0,1]) (φ:=[]) ?_⟩
    simp[w1,qcl,hh,hk,Trouble.rows,Trouble.cells,txKey]
 ·simp[qao]
  exact Wk.weak (ρ:=[1]) (φ:=[]) (by simp)
end Go.Proofs.YteckngloamnfdaaGreatDoor
