/- The types Melt, Bell, Beam, Action, Tune, Carillon as plain data, and what the functions of package laws do with them. No condition. -/
import Derived.Test.YteckngloamnfdaaGreatDoorXs
import Derived.Test.YteckngloamnfdaaGreatDoorTFlat
import Derived.Test.YteckngloamnfdaaGreatDoorTTone
namespace Go.Proofs.YteckngloamnfdaaGreatDoor
open Go Go.Ab
set_option maxRecDepth 100000
structure Melt where
 id:List UInt8
 ingots:List (List UInt8)
 mass:Int
theorem Melt.eq_iff {a b:Melt}:a=b↔a.id=b.id∧a.ingots=b.ingots∧a.mass=b.mass:=by cases a; cases b; simp
instance:DecidableEq Melt:=fun _ _=>decidable_of_iff _ Melt.eq_iff.symm
def Melt.cells (x:Melt):List PV:=[.str x.id, .sl 1 (qae x.ingots), .int .i64 x.mass]
def Melt.rows (l:List Melt):List (List PV):=l.map Melt.cells
def Melt.sz (x:Melt):Nat:=x.id.length+qc4 x.ingots
def Melt.szS (l:List Melt):Nat:=l.length+(l.map Melt.sz).sum
structure Melt.wf (x:Melt):Prop where
 id:x.id.length≤9223372036854775807
 ingots:(x.ingots.length≤9223372036854775807∧∀y∈x.ingots,y.length≤9223372036854775807)
 mass:I64 x.mass
theorem Melt.rows_len (l:List Melt):(Melt.rows l).length=l.length:=by simp[Melt.rows]
theorem Melt.row_get (l:List Melt) {i:Nat} (h:i<(Melt.rows l).length):(Melt.rows l)[i]=(l[i]'(by rw[Melt.rows_len]at h; exact h)).cells:=by simp[Melt.rows]
theorem Melt.fits {cs:List PV} (h:fitsL [.str, .slc [.str], .int .i64] cs):∃x:Melt,cs=x.cells∧x.wf:=by
 obtain⟨_,_,rfl,h0,h⟩:=qah h
 obtain⟨_,_,rfl,h1,h⟩:=qah h
 obtain⟨_,_,rfl,h2,h⟩:=qah h
 obtain rfl:=qbH h
 obtain⟨v0,rfl,w0⟩:=qcb h0
 obtain⟨r1,rfl,l1,f1⟩:=qbT h1
 obtain⟨v1,rfl,w1⟩:=qnN f1
 rw[qaF]at l1
 obtain⟨v2,rfl,w2⟩:=qaq h2
 exact⟨⟨v0,v1,v2⟩,rfl,⟨w0,⟨l1,w1⟩,lit64 w2⟩⟩
theorem Melt.fitsS {rows:List (List PV)} (h:∀r∈rows,fitsL [.str, .slc [.str], .int .i64] r):∃l:List Melt,rows=Melt.rows l∧∀x∈l,x.wf:=qbD fun r hr=>Melt.fits (h r hr)
theorem qoF (x:Melt) (left:Nat) (hl:left≤1048576) (hx:x.wf):HFn Tryz.prog 100 [.agg x.cells, .int .i64 left] [] (.int .i64 (szR x.sz left)) []:=by
 refine qaa hm Tryz.func100 (by kernel_rfl) rfl (by kernel_rfl) rfl qab ?_
 simp[Melt.cells]
 have w0:=hx.id
 rw[w64 (n:=(left:Int)-x.id.length) (by omega) (by omega)]
 refine⟨fun h=>by rw[qam (by unfold Melt.sz; omega)],fun h0 =>?_⟩
 rw[show (left:Int)-x.id.length=((left-x.id.length:Nat):Int) by omega]
 have k1:=qnO x.ingots (left-x.id.length) (by omega) hx.ingots.1 hx.ingots.2
 refine CallZ.use0 k1 rfl rfl ?_
 simp
 refine⟨fun h =>?_,fun h =>?_⟩
 ·have:=qaO h
  rw[qam (by unfold Melt.sz; omega)]
 have h1:=qaI h
 rw[qal h1]
 rw[qal (by unfold Melt.sz; omega)]
 unfold Melt.sz
 omega
theorem qoG (l:List Melt) (left:Nat) (hl:left≤1048576) (hlen:l.length≤9223372036854775807) (hx:∀x∈l,x.wf):HFn Tryz.prog 44 [.sl 3 (Melt.rows l), .int .i64 left] [] (.int .i64 (szR (Melt.szS l) left)) []:=by
 refine qaa hm Tryz.func44 (by kernel_rfl) rfl (by kernel_rfl) rfl qab ?_
 simp[Melt.rows_len]
 rw[w64 (n:=(left:Int)-l.length) (by omega) (by omega)]
 refine⟨fun h=>by rw[qam (by unfold Melt.szS; omega)],fun h =>?_⟩
 refine qac hm l.length (fun i=>⟨[(0, .sl 3 (Melt.rows l)),(1, .int .i64 (left-l.length-sumT Melt.sz l i)),(5, .int .i64 i)],[]⟩) (fun i=>l.length+sumT Melt.sz l i≤left) (by kernel_rfl) ?_ (by rw[qaR]; omega) (fun i hi hI =>?_) (fun hI =>?_)
 ·exact Wk.weak (ρ:=[]) (φ:=[]) (by simp[qaR])
 ·have es:=qbF Melt.sz hi
  have hle:=qbG Melt.sz l (i+1)
  have e1:(left:Int)-l.length-sumT Melt.sz l i=((left-l.length-sumT Melt.sz l i:Nat):Int):=by omega
  rw[e1]
  simp[Melt.rows_len,Melt.row_get,hi]
  refine CallZ.use0 (qoF l[i] _ (by omega) (hx _ (List.getElem_mem hi))) rfl rfl ?_
  simp
  refine⟨fun h =>?_,fun h =>?_⟩
  ·have:=qaO h
   rw[qam (by unfold Melt.szS; omega)]
  ·have hh:=qaI h
   refine⟨by omega,?_⟩
   refine Wk.weak (ρ:=[]) (φ:=[]) ?_
   simp
   rw[w64 (by omega) (by omega),qal hh]
   omega
 ·simp[Melt.rows_len]
  rw[qbE]at hI ⊢
  rw[qal (by unfold Melt.szS; omega)]
  unfold Melt.szS
  omega
theorem qoH (x:Melt) (h:x.sz≤1048576):HFn Tryz.prog 127 [.agg x.cells] [] (.agg x.cells) []:=by
 unfold Melt.sz at h
 refine qaa hm Tryz.func127 (by kernel_rfl) rfl (by kernel_rfl) rfl qab ?_
 simp[Melt.cells]
 have k1:=qnP x.ingots (by unfold qc4 at h; omega)
 refine CallZ.use0 k1 rfl rfl ?_
 simp
theorem qoI (l:List Melt) (h:Melt.szS l≤1048576):HFn Tryz.prog 59 [.sl 3 (Melt.rows l)] [] (.sl 3 (Melt.rows l)) []:=by
 have hl:l.length≤1048576:=by unfold Melt.szS at h; omega
 have hs:∀x∈l,x.sz≤1048576:=fun x hx=>by
  have:=qcq Melt.sz hx
  unfold Melt.szS at h
  omega
 refine qaa hm Tryz.func59 (by kernel_rfl) rfl (by kernel_rfl) rfl (fun _ _ h=>h) ?_
 simp[Melt.rows]
 refine⟨by omega,by omega, .inr ?_⟩
 refine qac hm l.length (fun i=>⟨[(0, .sl 3 (Melt.rows l)),(3, .sf 0 3),(4, .int .i64 i)],[some (.arr 3 ((l.take i).map Melt.cells++List.replicate (l.length-i) [.str [], .nils, .int .i64 0]))]⟩) (fun _=>True) (by kernel_rfl) ?_ trivial (fun i hi _ =>?_) (fun _ =>?_)
 ·exact Wk.weak (ρ:=[0]) (φ:=[]) (by simp[Melt.rows])
 ·obtain⟨X,hX,hXl,hXg⟩:=qbk Melt.cells l [.str [], .nils, .int .i64 0] hi
  rw[hX]
  have ea:=List.getElem?_eq_getElem hi
  simp[Melt.rows,hi]
  refine CallZ.use0 (qoH _ (hs _ (List.getElem_mem hi))) rfl rfl ?_
  simp[Melt.cells,hi,hXl,hXg]
  refine Wk.weak (ρ:=[0]) (φ:=[]) ?_
  simp
  rw[w64 (by omega) (by omega),←hX]
  exact⟨rfl,qbC Melt.cells l [.str [], .nils, .int .i64 0] hi⟩
 ·simp[Melt.rows]
  exact Wk.weak (ρ:=[]) (φ:=[0]) (by simp)
theorem qoJ (a:Melt) (h:a.wf):HFn Tryz.prog 169 [.agg a.cells, .agg a.cells] [] (.bool true) []:=by
 refine qaa hm Tryz.func169 (by kernel_rfl) rfl (by kernel_rfl) rfl qab ?_
 simp[Melt.cells]
 have k1:=qfd a.ingots a.ingots h.ingots.1
 refine CallZ.use0 k1 rfl rfl ?_
 simp
theorem qoK (a:List Melt) (ha:a.length≤9223372036854775807) (h:∀x∈a,x.wf):HFn Tryz.prog 80 [.sl 3 (Melt.rows a), .sl 3 (Melt.rows a)] [] (.bool true) []:=by
 refine qaa hm Tryz.func80 (by kernel_rfl) rfl (by kernel_rfl) rfl qab ?_
 simp[Melt.rows_len]
 refine qac hm a.length (fun i=>⟨[(0, .sl 3 (Melt.rows a)),(1, .sl 3 (Melt.rows a)),(5, .int .i64 i)],[]⟩) (fun _=>True) (by kernel_rfl) ?_ trivial (fun i hi _ =>?_) (fun _ =>?_)
 ·exact Wk.weak (ρ:=[]) (φ:=[]) (by simp)
 ·simp[Melt.rows_len,Melt.row_get,hi]
  refine CallZ.use0 (qoJ a[i] (h _ (List.getElem_mem hi))) rfl rfl ?_
  simp
  refine Wk.weak (ρ:=[]) (φ:=[]) ?_
  simp
  exact w64 (by omega) (by omega)
 ·simp[Melt.rows_len]
end Go.Proofs.YteckngloamnfdaaGreatDoor
namespace Go.Proofs.YteckngloamnfdaaGreatDoor
open Go Go.Ab
set_option maxRecDepth 100000
structure Bell where
 id:List UInt8
 note:Int
 mass:Int
 feed:Int
 shares:List Share
theorem Bell.eq_iff {a b:Bell}:a=b↔a.id=b.id∧a.note=b.note∧a.mass=b.mass∧a.feed=b.feed∧a.shares=b.shares:=by cases a; cases b; simp
instance:DecidableEq Bell:=fun _ _=>decidable_of_iff _ Bell.eq_iff.symm
def Bell.cells (x:Bell):List PV:=[.str x.id, .int .i64 x.note, .int .i64 x.mass, .int .i64 x.feed, .sl 2 (Share.rows x.shares)]
def Bell.rows (l:List Bell):List (List PV):=l.map Bell.cells
def Bell.sz (x:Bell):Nat:=x.id.length+Share.szS x.shares
def Bell.szS (l:List Bell):Nat:=l.length+(l.map Bell.sz).sum
structure Bell.wf (x:Bell):Prop where
 id:x.id.length≤9223372036854775807
 note:I64 x.note
 mass:I64 x.mass
 feed:I64 x.feed
 shares:(x.shares.length≤9223372036854775807∧∀y∈x.shares,y.wf)
theorem Bell.rows_len (l:List Bell):(Bell.rows l).length=l.length:=by simp[Bell.rows]
theorem Bell.row_get (l:List Bell) {i:Nat} (h:i<(Bell.rows l).length):(Bell.rows l)[i]=(l[i]'(by rw[Bell.rows_len]at h; exact h)).cells:=by simp[Bell.rows]
theorem Bell.fits {cs:List PV} (h:fitsL [.str, .int .i64, .int .i64, .int .i64, .slc [.str, .int .i64]] cs):∃x:Bell,cs=x.cells∧x.wf:=by
 obtain⟨_,_,rfl,h0,h⟩:=qah h
 obtain⟨_,_,rfl,h1,h⟩:=qah h
 obtain⟨_,_,rfl,h2,h⟩:=qah h
 obtain⟨_,_,rfl,h3,h⟩:=qah h
 obtain⟨_,_,rfl,h4,h⟩:=qah h
 obtain rfl:=qbH h
 obtain⟨v0,rfl,w0⟩:=qcb h0
 obtain⟨v1,rfl,w1⟩:=qaq h1
 obtain⟨v2,rfl,w2⟩:=qaq h2
 obtain⟨v3,rfl,w3⟩:=qaq h3
 obtain⟨r4,rfl,l4,f4⟩:=qbT h4
 obtain⟨v4,rfl,w4⟩:=Share.fitsS f4
 rw[Share.rows_len]at l4
 exact⟨⟨v0,v1,v2,v3,v4⟩,rfl,⟨w0,lit64 w1,lit64 w2,lit64 w3,⟨l4,w4⟩⟩⟩
theorem Bell.fitsS {rows:List (List PV)} (h:∀r∈rows,fitsL [.str, .int .i64, .int .i64, .int .i64, .slc [.str, .int .i64]] r):∃l:List Bell,rows=Bell.rows l∧∀x∈l,x.wf:=qbD fun r hr=>Bell.fits (h r hr)
theorem qoL (x:Bell) (left:Nat) (hl:left≤1048576) (hx:x.wf):HFn Tryz.prog 101 [.agg x.cells, .int .i64 left] [] (.int .i64 (szR x.sz left)) []:=by
 refine qaa hm Tryz.func101 (by kernel_rfl) rfl (by kernel_rfl) rfl qab ?_
 simp[Bell.cells]
 have w0:=hx.id
 rw[w64 (n:=(left:Int)-x.id.length) (by omega) (by omega)]
 refine⟨fun h=>by rw[qam (by unfold Bell.sz; omega)],fun h0 =>?_⟩
 rw[show (left:Int)-x.id.length=((left-x.id.length:Nat):Int) by omega]
 have k1:=qoh x.shares (left-x.id.length) (by omega) hx.shares.1 hx.shares.2
 refine CallZ.use0 k1 rfl rfl ?_
 simp
 refine⟨fun h =>?_,fun h =>?_⟩
 ·have:=qaO h
  rw[qam (by unfold Bell.sz; omega)]
 have h1:=qaI h
 rw[qal h1]
 rw[qal (by unfold Bell.sz; omega)]
 unfold Bell.sz
 omega
theorem qoM (l:List Bell) (left:Nat) (hl:left≤1048576) (hlen:l.length≤9223372036854775807) (hx:∀x∈l,x.wf):HFn Tryz.prog 45 [.sl 5 (Bell.rows l), .int .i64 left] [] (.int .i64 (szR (Bell.szS l) left)) []:=by
 refine qaa hm Tryz.func45 (by kernel_rfl) rfl (by kernel_rfl) rfl qab ?_
 simp[Bell.rows_len]
 rw[w64 (n:=(left:Int)-l.length) (by omega) (by omega)]
 refine⟨fun h=>by rw[qam (by unfold Bell.szS; omega)],fun h =>?_⟩
 refine qac hm l.length (fun i=>⟨[(0, .sl 5 (Bell.rows l)),(1, .int .i64 (left-l.length-sumT Bell.sz l i)),(5, .int .i64 i)],[]⟩) (fun i=>l.length+sumT Bell.sz l i≤left) (by kernel_rfl) ?_ (by rw[qaR]; omega) (fun i hi hI =>?_) (fun hI =>?_)
 ·exact Wk.weak (ρ:=[]) (φ:=[]) (by simp[qaR])
 ·have es:=qbF Bell.sz hi
  have hle:=qbG Bell.sz l (i+1)
  have e1:(left:Int)-l.length-sumT Bell.sz l i=((left-l.length-sumT Bell.sz l i:Nat):Int):=by omega
  rw[e1]
  simp[Bell.rows_len,Bell.row_get,hi]
  refine CallZ.use0 (qoL l[i] _ (by omega) (hx _ (List.getElem_mem hi))) rfl rfl ?_
  simp
  refine⟨fun h =>?_,fun h =>?_⟩
  ·have:=qaO h
   rw[qam (by unfold Bell.szS; omega)]
  ·have hh:=qaI h
   refine⟨by omega,?_⟩
   refine Wk.weak (ρ:=[]) (φ:=[]) ?_
   simp
   rw[w64 (by omega) (by omega),qal hh]
   omega
 ·simp[Bell.rows_len]
  rw[qbE]at hI ⊢
  rw[qal (by unfold Bell.szS; omega)]
  unfold Bell.szS
  omega
theorem qoN (x:Bell) (h:x.sz≤1048576):HFn Tryz.prog 128 [.agg x.cells] [] (.agg x.cells) []:=by
 unfold Bell.sz at h
 refine qaa hm Tryz.func128 (by kernel_rfl) rfl (by kernel_rfl) rfl qab ?_
 simp[Bell.cells]
 have k4:=qoj x.shares (by unfold Share.szS at h; omega)
 refine CallZ.use0 k4 rfl rfl ?_
 simp
theorem qoO (l:List Bell) (h:Bell.szS l≤1048576):HFn Tryz.prog 60 [.sl 5 (Bell.rows l)] [] (.sl 5 (Bell.rows l)) []:=by
 have hl:l.length≤1048576:=by unfold Bell.szS at h; omega
 have hs:∀x∈l,x.sz≤1048576:=fun x hx=>by
  have:=qcq Bell.sz hx
  unfold Bell.szS at h
  omega
 refine qaa hm Tryz.func60 (by kernel_rfl) rfl (by kernel_rfl) rfl (fun _ _ h=>h) ?_
 simp[Bell.rows]
 refine⟨by omega,by omega, .inr ?_⟩
 refine qac hm l.length (fun i=>⟨[(0, .sl 5 (Bell.rows l)),(3, .sf 0 5),(4, .int .i64 i)],[some (.arr 5 ((l.take i).map Bell.cells++List.replicate (l.length-i) [.str [], .int .i64 0, .int .i64 0, .int .i64 0, .nils]))]⟩) (fun _=>True) (by kernel_rfl) ?_ trivial (fun i hi _ =>?_) (fun _ =>?_)
 ·exact Wk.weak (ρ:=[0]) (φ:=[]) (by simp[Bell.rows])
 ·obtain⟨X,hX,hXl,hXg⟩:=qbk Bell.cells l [.str [], .int .i64 0, .int .i64 0, .int .i64 0, .nils] hi
  rw[hX]
  have ea:=List.getElem?_eq_getElem hi
  simp[Bell.rows,hi]
  refine CallZ.use0 (qoN _ (hs _ (List.getElem_mem hi))) rfl rfl ?_
  simp[Bell.cells,hi,hXl,hXg]
  refine Wk.weak (ρ:=[0]) (φ:=[]) ?_
  simp
  rw[w64 (by omega) (by omega),←hX]
  exact⟨rfl,qbC Bell.cells l [.str [], .int .i64 0, .int .i64 0, .int .i64 0, .nils] hi⟩
 ·simp[Bell.rows]
  exact Wk.weak (ρ:=[]) (φ:=[0]) (by simp)
theorem qoP (a:Bell) (h:a.wf):HFn Tryz.prog 170 [.agg a.cells, .agg a.cells] [] (.bool true) []:=by
 refine qaa hm Tryz.func170 (by kernel_rfl) rfl (by kernel_rfl) rfl qab ?_
 simp[Bell.cells]
 have k4:=qol a.shares a.shares h.shares.1
 refine CallZ.use0 k4 rfl rfl ?_
 simp
theorem qoQ (a:List Bell) (ha:a.length≤9223372036854775807) (h:∀x∈a,x.wf):HFn Tryz.prog 81 [.sl 5 (Bell.rows a), .sl 5 (Bell.rows a)] [] (.bool true) []:=by
 refine qaa hm Tryz.func81 (by kernel_rfl) rfl (by kernel_rfl) rfl qab ?_
 simp[Bell.rows_len]
 refine qac hm a.length (fun i=>⟨[(0, .sl 5 (Bell.rows a)),(1, .sl 5 (Bell.rows a)),(5, .int .i64 i)],[]⟩) (fun _=>True) (by kernel_rfl) ?_ trivial (fun i hi _ =>?_) (fun _ =>?_)
 ·exact Wk.weak (ρ:=[]) (φ:=[]) (by simp)
 ·simp[Bell.rows_len,Bell.row_get,hi]
  refine CallZ.use0 (qoP a[i] (h _ (List.getElem_mem hi))) rfl rfl ?_
  simp
  refine Wk.weak (ρ:=[]) (φ:=[]) ?_
  simp
  exact w64 (by omega) (by omega)
 ·simp[Bell.rows_len]
end Go.Proofs.YteckngloamnfdaaGreatDoor
namespace Go.Proofs.YteckngloamnfdaaGreatDoor
open Go Go.Ab
set_option maxRecDepth 100000
structure Beam where
 name:List UInt8
 span:Int
 width:Int
 depth:Int
 wood:Int
 loads:List Load
theorem Beam.eq_iff {a b:Beam}:a=b↔a.name=b.name∧a.span=b.span∧a.width=b.width∧a.depth=b.depth∧a.wood=b.wood∧a.loads=b.loads:=by cases a; cases b; simp
instance:DecidableEq Beam:=fun _ _=>decidable_of_iff _ Beam.eq_iff.symm
def Beam.cells (x:Beam):List PV:=[.str x.name, .int .i64 x.span, .int .i64 x.width, .int .i64 x.depth, .int .i64 x.wood, .sl 2 (Load.rows x.loads)]
def Beam.rows (l:List Beam):List (List PV):=l.map Beam.cells
def Beam.sz (x:Beam):Nat:=x.name.length+Load.szS x.loads
def Beam.szS (l:List Beam):Nat:=l.length+(l.map Beam.sz).sum
structure Beam.wf (x:Beam):Prop where
 name:x.name.length≤9223372036854775807
 span:I64 x.span
 width:I64 x.width
 depth:I64 x.depth
 wood:I64 x.wood
 loads:(x.loads.length≤9223372036854775807∧∀y∈x.loads,y.wf)
theorem Beam.rows_len (l:List Beam):(Beam.rows l).length=l.length:=by simp[Beam.rows]
theorem Beam.row_get (l:List Beam) {i:Nat} (h:i<(Beam.rows l).length):(Beam.rows l)[i]=(l[i]'(by rw[Beam.rows_len]at h; exact h)).cells:=by simp[Beam.rows]
theorem Beam.fits {cs:List PV} (h:fitsL [.str, .int .i64, .int .i64, .int .i64, .int .i64, .slc [.int .i64, .int .i64]] cs):∃x:Beam,cs=x.cells∧x.wf:=by
 obtain⟨_,_,rfl,h0,h⟩:=qah h
 obtain⟨_,_,rfl,h1,h⟩:=qah h
 obtain⟨_,_,rfl,h2,h⟩:=qah h
 obtain⟨_,_,rfl,h3,h⟩:=qah h
 obtain⟨_,_,rfl,h4,h⟩:=qah h
 obtain⟨_,_,rfl,h5,h⟩:=qah h
 obtain rfl:=qbH h
 obtain⟨v0,rfl,w0⟩:=qcb h0
 obtain⟨v1,rfl,w1⟩:=qaq h1
 obtain⟨v2,rfl,w2⟩:=qaq h2
 obtain⟨v3,rfl,w3⟩:=qaq h3
 obtain⟨v4,rfl,w4⟩:=qaq h4
 obtain⟨r5,rfl,l5,f5⟩:=qbT h5
 obtain⟨v5,rfl,w5⟩:=Load.fitsS f5
 rw[Load.rows_len]at l5
 exact⟨⟨v0,v1,v2,v3,v4,v5⟩,rfl,⟨w0,lit64 w1,lit64 w2,lit64 w3,lit64 w4,⟨l5,w5⟩⟩⟩
theorem Beam.fitsS {rows:List (List PV)} (h:∀r∈rows,fitsL [.str, .int .i64, .int .i64, .int .i64, .int .i64, .slc [.int .i64, .int .i64]] r):∃l:List Beam,rows=Beam.rows l∧∀x∈l,x.wf:=qbD fun r hr=>Beam.fits (h r hr)
theorem qoR (x:Beam) (left:Nat) (hl:left≤1048576) (hx:x.wf):HFn Tryz.prog 104 [.agg x.cells, .int .i64 left] [] (.int .i64 (szR x.sz left)) []:=by
 refine qaa hm Tryz.func104 (by kernel_rfl) rfl (by kernel_rfl) rfl qab ?_
 simp[Beam.cells]
 have w0:=hx.name
 rw[w64 (n:=(left:Int)-x.name.length) (by omega) (by omega)]
 refine⟨fun h=>by rw[qam (by unfold Beam.sz; omega)],fun h0 =>?_⟩
 rw[show (left:Int)-x.name.length=((left-x.name.length:Nat):Int) by omega]
 have k1:=qon x.loads (left-x.name.length) (by omega) hx.loads.1 hx.loads.2
 refine CallZ.use0 k1 rfl rfl ?_
 simp
 refine⟨fun h =>?_,fun h =>?_⟩
 ·have:=qaO h
  rw[qam (by unfold Beam.sz; omega)]
 have h1:=qaI h
 rw[qal h1]
 rw[qal (by unfold Beam.sz; omega)]
 unfold Beam.sz
 omega
theorem qoS (l:List Beam) (left:Nat) (hl:left≤1048576) (hlen:l.length≤9223372036854775807) (hx:∀x∈l,x.wf):HFn Tryz.prog 49 [.sl 6 (Beam.rows l), .int .i64 left] [] (.int .i64 (szR (Beam.szS l) left)) []:=by
 refine qaa hm Tryz.func49 (by kernel_rfl) rfl (by kernel_rfl) rfl qab ?_
 simp[Beam.rows_len]
 rw[w64 (n:=(left:Int)-l.length) (by omega) (by omega)]
 refine⟨fun h=>by rw[qam (by unfold Beam.szS; omega)],fun h =>?_⟩
 refine qac hm l.length (fun i=>⟨[(0, .sl 6 (Beam.rows l)),(1, .int .i64 (left-l.length-sumT Beam.sz l i)),(5, .int .i64 i)],[]⟩) (fun i=>l.length+sumT Beam.sz l i≤left) (by kernel_rfl) ?_ (by rw[qaR]; omega) (fun i hi hI =>?_) (fun hI =>?_)
 ·exact Wk.weak (ρ:=[]) (φ:=[]) (by simp[qaR])
 ·have es:=qbF Beam.sz hi
  have hle:=qbG Beam.sz l (i+1)
  have e1:(left:Int)-l.length-sumT Beam.sz l i=((left-l.length-sumT Beam.sz l i:Nat):Int):=by omega
  rw[e1]
  simp[Beam.rows_len,Beam.row_get,hi]
  refine CallZ.use0 (qoR l[i] _ (by omega) (hx _ (List.getElem_mem hi))) rfl rfl ?_
  simp
  refine⟨fun h =>?_,fun h =>?_⟩
  ·have:=qaO h
   rw[qam (by unfold Beam.szS; omega)]
  ·have hh:=qaI h
   refine⟨by omega,?_⟩
   refine Wk.weak (ρ:=[]) (φ:=[]) ?_
   simp
   rw[w64 (by omega) (by omega),qal hh]
   omega
 ·simp[Beam.rows_len]
  rw[qbE]at hI ⊢
  rw[qal (by unfold Beam.szS; omega)]
  unfold Beam.szS
  omega
theorem qoT (x:Beam) (h:x.sz≤1048576):HFn Tryz.prog 131 [.agg x.cells] [] (.agg x.cells) []:=by
 unfold Beam.sz at h
 refine qaa hm Tryz.func131 (by kernel_rfl) rfl (by kernel_rfl) rfl qab ?_
 simp[Beam.cells]
 have k5:=qop x.loads (by unfold Load.szS at h; omega)
 refine CallZ.use0 k5 rfl rfl ?_
 simp
theorem qoU (l:List Beam) (h:Beam.szS l≤1048576):HFn Tryz.prog 65 [.sl 6 (Beam.rows l)] [] (.sl 6 (Beam.rows l)) []:=by
 have hl:l.length≤1048576:=by unfold Beam.szS at h; omega
 have hs:∀x∈l,x.sz≤1048576:=fun x hx=>by
  have:=qcq Beam.sz hx
  unfold Beam.szS at h
  omega
 refine qaa hm Tryz.func65 (by kernel_rfl) rfl (by kernel_rfl) rfl (fun _ _ h=>h) ?_
 simp[Beam.rows]
 refine⟨by omega,by omega, .inr ?_⟩
 refine qac hm l.length (fun i=>⟨[(0, .sl 6 (Beam.rows l)),(3, .sf 0 6),(4, .int .i64 i)],[some (.arr 6 ((l.take i).map Beam.cells++List.replicate (l.length-i) [.str [], .int .i64 0, .int .i64 0, .int .i64 0, .int .i64 0, .nils]))]⟩) (fun _=>True) (by kernel_rfl) ?_ trivial (fun i hi _ =>?_) (fun _ =>?_)
 ·exact Wk.weak (ρ:=[0]) (φ:=[]) (by simp[Beam.rows])
 ·obtain⟨X,hX,hXl,hXg⟩:=qbk Beam.cells l [.str [], .int .i64 0, .int .i64 0, .int .i64 0, .int .i64 0, .nils] hi
  rw[hX]
  have ea:=List.getElem?_eq_getElem hi
  simp[Beam.rows,hi]
  refine CallZ.use0 (qoT _ (hs _ (List.getElem_mem hi))) rfl rfl ?_
  simp[Beam.cells,hi,hXl,hXg]
  refine Wk.weak (ρ:=[0]) (φ:=[]) ?_
  simp
  rw[w64 (by omega) (by omega),←hX]
  exact⟨rfl,qbC Beam.cells l [.str [], .int .i64 0, .int .i64 0, .int .i64 0, .int .i64 0, .nils] hi⟩
 ·simp[Beam.rows]
  exact Wk.weak (ρ:=[]) (φ:=[0]) (by simp)
theorem qoV (a:Beam) (h:a.wf):HFn Tryz.prog 173 [.agg a.cells, .agg a.cells] [] (.bool true) []:=by
 refine qaa hm Tryz.func173 (by kernel_rfl) rfl (by kernel_rfl) rfl qab ?_
 simp[Beam.cells]
 have k5:=qor a.loads a.loads h.loads.1
 refine CallZ.use0 k5 rfl rfl ?_
 simp
theorem qoW (a:List Beam) (ha:a.length≤9223372036854775807) (h:∀x∈a,x.wf):HFn Tryz.prog 86 [.sl 6 (Beam.rows a), .sl 6 (Beam.rows a)] [] (.bool true) []:=by
 refine qaa hm Tryz.func86 (by kernel_rfl) rfl (by kernel_rfl) rfl qab ?_
 simp[Beam.rows_len]
 refine qac hm a.length (fun i=>⟨[(0, .sl 6 (Beam.rows a)),(1, .sl 6 (Beam.rows a)),(5, .int .i64 i)],[]⟩) (fun _=>True) (by kernel_rfl) ?_ trivial (fun i hi _ =>?_) (fun _ =>?_)
 ·exact Wk.weak (ρ:=[]) (φ:=[]) (by simp)
 ·simp[Beam.rows_len,Beam.row_get,hi]
  refine CallZ.use0 (qoV a[i] (h _ (List.getElem_mem hi))) rfl rfl ?_
  simp
  refine Wk.weak (ρ:=[]) (φ:=[]) ?_
  simp
  exact w64 (by omega) (by omega)
 ·simp[Beam.rows_len]
end Go.Proofs.YteckngloamnfdaaGreatDoor
namespace Go.Proofs.YteckngloamnfdaaGreatDoor
open Go Go.Ab
set_option maxRecDepth 100000
structure Action where
 note:Int
 levers:List Lever
 slack:Int
 weight:Int
theorem Action.eq_iff {a b:Action}:a=b↔a.note=b.note∧a.levers=b.levers∧a.slack=b.slack∧a.weight=b.weight:=by cases a; cases b; simp
instance:DecidableEq Action:=fun _ _=>decidable_of_iff _ Action.eq_iff.symm
def Action.cells (x:Action):List PV:=[.int .i64 x.note, .sl 2 (Lever.rows x.levers), .int .i64 x.slack, .int .i64 x.weight]
def Action.rows (l:List Action):List (List PV):=l.map Action.cells
def Action.sz (x:Action):Nat:=Lever.szS x.levers
def Action.szS (l:List Action):Nat:=l.length+(l.map Action.sz).sum
structure Action.wf (x:Action):Prop where
 note:I64 x.note
 levers:(x.levers.length≤9223372036854775807∧∀y∈x.levers,y.wf)
 slack:I64 x.slack
 weight:I64 x.weight
theorem Action.rows_len (l:List Action):(Action.rows l).length=l.length:=by simp[Action.rows]
theorem Action.row_get (l:List Action) {i:Nat} (h:i<(Action.rows l).length):(Action.rows l)[i]=(l[i]'(by rw[Action.rows_len]at h; exact h)).cells:=by simp[Action.rows]
theorem Action.fits {cs:List PV} (h:fitsL [.int .i64, .slc [.int .i64, .int .i64], .int .i64, .int .i64] cs):∃x:Action,cs=x.cells∧x.wf:=by
 obtain⟨_,_,rfl,h0,h⟩:=qah h
 obtain⟨_,_,rfl,h1,h⟩:=qah h
 obtain⟨_,_,rfl,h2,h⟩:=qah h
 obtain⟨_,_,rfl,h3,h⟩:=qah h
 obtain rfl:=qbH h
 obtain⟨v0,rfl,w0⟩:=qaq h0
 obtain⟨r1,rfl,l1,f1⟩:=qbT h1
 obtain⟨v1,rfl,w1⟩:=Lever.fitsS f1
 rw[Lever.rows_len]at l1
 obtain⟨v2,rfl,w2⟩:=qaq h2
 obtain⟨v3,rfl,w3⟩:=qaq h3
 exact⟨⟨v0,v1,v2,v3⟩,rfl,⟨lit64 w0,⟨l1,w1⟩,lit64 w2,lit64 w3⟩⟩
theorem Action.fitsS {rows:List (List PV)} (h:∀r∈rows,fitsL [.int .i64, .slc [.int .i64, .int .i64], .int .i64, .int .i64] r):∃l:List Action,rows=Action.rows l∧∀x∈l,x.wf:=qbD fun r hr=>Action.fits (h r hr)
theorem qoX (x:Action) (left:Nat) (hl:left≤1048576) (hx:x.wf):HFn Tryz.prog 105 [.agg x.cells, .int .i64 left] [] (.int .i64 (szR x.sz left)) []:=by
 refine qaa hm Tryz.func105 (by kernel_rfl) rfl (by kernel_rfl) rfl qab ?_
 simp[Action.cells]
 have k0:=qot x.levers (left) (by omega) hx.levers.1 hx.levers.2
 refine CallZ.use0 k0 rfl rfl ?_
 simp
 refine⟨fun h =>?_,fun h =>?_⟩
 ·have:=qaO h
  rw[qam (by unfold Action.sz; omega)]
 have h0:=qaI h
 rw[qal h0]
 rw[qal (by unfold Action.sz; omega)]
 unfold Action.sz
 omega
theorem qoY (l:List Action) (left:Nat) (hl:left≤1048576) (hlen:l.length≤9223372036854775807) (hx:∀x∈l,x.wf):HFn Tryz.prog 50 [.sl 4 (Action.rows l), .int .i64 left] [] (.int .i64 (szR (Action.szS l) left)) []:=by
 refine qaa hm Tryz.func50 (by kernel_rfl) rfl (by kernel_rfl) rfl qab ?_
 simp[Action.rows_len]
 rw[w64 (n:=(left:Int)-l.length) (by omega) (by omega)]
 refine⟨fun h=>by rw[qam (by unfold Action.szS; omega)],fun h =>?_⟩
 refine qac hm l.length (fun i=>⟨[(0, .sl 4 (Action.rows l)),(1, .int .i64 (left-l.length-sumT Action.sz l i)),(5, .int .i64 i)],[]⟩) (fun i=>l.length+sumT Action.sz l i≤left) (by kernel_rfl) ?_ (by rw[qaR]; omega) (fun i hi hI =>?_) (fun hI =>?_)
 ·exact Wk.weak (ρ:=[]) (φ:=[]) (by simp[qaR])
 ·have es:=qbF Action.sz hi
  have hle:=qbG Action.sz l (i+1)
  have e1:(left:Int)-l.length-sumT Action.sz l i=((left-l.length-sumT Action.sz l i:Nat):Int):=by omega
  rw[e1]
  simp[Action.rows_len,Action.row_get,hi]
  refine CallZ.use0 (qoX l[i] _ (by omega) (hx _ (List.getElem_mem hi))) rfl rfl ?_
  simp
  refine⟨fun h =>?_,fun h =>?_⟩
  ·have:=qaO h
   rw[qam (by unfold Action.szS; omega)]
  ·have hh:=qaI h
   refine⟨by omega,?_⟩
   refine Wk.weak (ρ:=[]) (φ:=[]) ?_
   simp
   rw[w64 (by omega) (by omega),qal hh]
   omega
 ·simp[Action.rows_len]
  rw[qbE]at hI ⊢
  rw[qal (by unfold Action.szS; omega)]
  unfold Action.szS
  omega
theorem qoZ (x:Action) (h:x.sz≤1048576):HFn Tryz.prog 132 [.agg x.cells] [] (.agg x.cells) []:=by
 unfold Action.sz at h
 refine qaa hm Tryz.func132 (by kernel_rfl) rfl (by kernel_rfl) rfl qab ?_
 simp[Action.cells]
 have k1:=qov x.levers (by unfold Lever.szS at h; omega)
 refine CallZ.use0 k1 rfl rfl ?_
 simp
theorem qo0 (l:List Action) (h:Action.szS l≤1048576):HFn Tryz.prog 66 [.sl 4 (Action.rows l)] [] (.sl 4 (Action.rows l)) []:=by
 have hl:l.length≤1048576:=by unfold Action.szS at h; omega
 have hs:∀x∈l,x.sz≤1048576:=fun x hx=>by
  have:=qcq Action.sz hx
  unfold Action.szS at h
  omega
 refine qaa hm Tryz.func66 (by kernel_rfl) rfl (by kernel_rfl) rfl (fun _ _ h=>h) ?_
 simp[Action.rows]
 refine⟨by omega,by omega, .inr ?_⟩
 refine qac hm l.length (fun i=>⟨[(0, .sl 4 (Action.rows l)),(3, .sf 0 4),(4, .int .i64 i)],[some (.arr 4 ((l.take i).map Action.cells++List.replicate (l.length-i) [.int .i64 0, .nils, .int .i64 0, .int .i64 0]))]⟩) (fun _=>True) (by kernel_rfl) ?_ trivial (fun i hi _ =>?_) (fun _ =>?_)
 ·exact Wk.weak (ρ:=[0]) (φ:=[]) (by simp[Action.rows])
 ·obtain⟨X,hX,hXl,hXg⟩:=qbk Action.cells l [.int .i64 0, .nils, .int .i64 0, .int .i64 0] hi
  rw[hX]
  have ea:=List.getElem?_eq_getElem hi
  simp[Action.rows,hi]
  refine CallZ.use0 (qoZ _ (hs _ (List.getElem_mem hi))) rfl rfl ?_
  simp[Action.cells,hi,hXl,hXg]
  refine Wk.weak (ρ:=[0]) (φ:=[]) ?_
  simp
  rw[w64 (by omega) (by omega),←hX]
  exact⟨rfl,qbC Action.cells l [.int .i64 0, .nils, .int .i64 0, .int .i64 0] hi⟩
 ·simp[Action.rows]
  exact Wk.weak (ρ:=[]) (φ:=[0]) (by simp)
theorem qo1 (a:Action) (h:a.wf):HFn Tryz.prog 174 [.agg a.cells, .agg a.cells] [] (.bool true) []:=by
 refine qaa hm Tryz.func174 (by kernel_rfl) rfl (by kernel_rfl) rfl qab ?_
 simp[Action.cells]
 have k1:=qox a.levers a.levers h.levers.1
 refine CallZ.use0 k1 rfl rfl ?_
 simp
theorem qo2 (a:List Action) (ha:a.length≤9223372036854775807) (h:∀x∈a,x.wf):HFn Tryz.prog 87 [.sl 4 (Action.rows a), .sl 4 (Action.rows a)] [] (.bool true) []:=by
 refine qaa hm Tryz.func87 (by kernel_rfl) rfl (by kernel_rfl) rfl qab ?_
 simp[Action.rows_len]
 refine qac hm a.length (fun i=>⟨[(0, .sl 4 (Action.rows a)),(1, .sl 4 (Action.rows a)),(5, .int .i64 i)],[]⟩) (fun _=>True) (by kernel_rfl) ?_ trivial (fun i hi _ =>?_) (fun _ =>?_)
 ·exact Wk.weak (ρ:=[]) (φ:=[]) (by simp)
 ·simp[Action.rows_len,Action.row_get,hi]
  refine CallZ.use0 (qo1 a[i] (h _ (List.getElem_mem hi))) rfl rfl ?_
  simp
  refine Wk.weak (ρ:=[]) (φ:=[]) ?_
  simp
  exact w64 (by omega) (by omega)
 ·simp[Action.rows_len]
end Go.Proofs.YteckngloamnfdaaGreatDoor
namespace Go.Proofs.YteckngloamnfdaaGreatDoor
open Go Go.Ab
set_option maxRecDepth 100000
structure Tune where
 name:List UInt8
 tones:List Tone
theorem Tune.eq_iff {a b:Tune}:a=b↔a.name=b.name∧a.tones=b.tones:=by cases a; cases b; simp
instance:DecidableEq Tune:=fun _ _=>decidable_of_iff _ Tune.eq_iff.symm
def Tune.cells (x:Tune):List PV:=[.str x.name, .sl 3 (Tone.rows x.tones)]
def Tune.sz (x:Tune):Nat:=x.name.length+Tone.szS x.tones
structure Tune.wf (x:Tune):Prop where
 name:x.name.length≤9223372036854775807
 tones:(x.tones.length≤9223372036854775807∧∀y∈x.tones,y.wf)
theorem qo3 (x:Tune) (left:Nat) (hl:left≤1048576) (hx:x.wf):HFn Tryz.prog 51 [.agg x.cells, .int .i64 left] [] (.int .i64 (szR x.sz left)) []:=by
 refine qaa hm Tryz.func51 (by kernel_rfl) rfl (by kernel_rfl) rfl qab ?_
 simp[Tune.cells]
 have w0:=hx.name
 rw[w64 (n:=(left:Int)-x.name.length) (by omega) (by omega)]
 refine⟨fun h=>by rw[qam (by unfold Tune.sz; omega)],fun h0 =>?_⟩
 rw[show (left:Int)-x.name.length=((left-x.name.length:Nat):Int) by omega]
 have k1:=qoz x.tones (left-x.name.length) (by omega) hx.tones.1 hx.tones.2
 refine CallZ.use0 k1 rfl rfl ?_
 simp
 refine⟨fun h =>?_,fun h =>?_⟩
 ·have:=qaO h
  rw[qam (by unfold Tune.sz; omega)]
 have h1:=qaI h
 rw[qal h1]
 rw[qal (by unfold Tune.sz; omega)]
 unfold Tune.sz
 omega
theorem qo4 (x:Tune) (h:x.sz≤1048576):HFn Tryz.prog 67 [.agg x.cells] [] (.agg x.cells) []:=by
 unfold Tune.sz at h
 refine qaa hm Tryz.func67 (by kernel_rfl) rfl (by kernel_rfl) rfl qab ?_
 simp[Tune.cells]
 have k1:=qoB x.tones (by unfold Tone.szS at h; omega)
 refine CallZ.use0 k1 rfl rfl ?_
 simp
theorem qo5 (a:Tune) (h:a.wf):HFn Tryz.prog 88 [.agg a.cells, .agg a.cells] [] (.bool true) []:=by
 refine qaa hm Tryz.func88 (by kernel_rfl) rfl (by kernel_rfl) rfl qab ?_
 simp[Tune.cells]
 have k1:=qoD a.tones a.tones h.tones.1
 refine CallZ.use0 k1 rfl rfl ?_
 simp
end Go.Proofs.YteckngloamnfdaaGreatDoor
namespace Go.Proofs.YteckngloamnfdaaGreatDoor
open Go Go.Ab
set_option maxRecDepth 100000
structure Carillon where
 ingots:List Ingot
 melts:List Melt
 bells:List Bell
 hung:List Hung
 chamber:Chamber
 places:List Place
 gap:Int
 tower:Tower
 frame:List Beam
 stress:Int
 bending:Int
 clavier:List Action
 tune:Tune
theorem Carillon.eq_iff {a b:Carillon}:a=b↔a.ingots=b.ingots∧a.melts=b.melts∧a.bells=b.bells∧a.hung=b.hung∧a.chamber=b.chamber∧a.places=b.places∧a.gap=b.gap∧a.tower=b.tower∧a.frame=b.frame∧a.stress=b.stress∧a.bending=b.bending∧a.clavier=b.clavier∧a.tune=b.tune:=by cases a; cases b; simp
instance:DecidableEq Carillon:=fun _ _=>decidable_of_iff _ Carillon.eq_iff.symm
def Carillon.cells (x:Carillon):List PV:=[.sl 5 (Ingot.rows x.ingots), .sl 3 (Melt.rows x.melts), .sl 5 (Bell.rows x.bells), .sl 5 (Hung.rows x.hung), .int .i64 x.chamber.width, .int .i64 x.chamber.length, .int .i64 x.chamber.height, .sl 5 (Place.rows x.places), .int .i64 x.gap, .str x.tower.name, .int .i64 x.tower.sway, .int .i64 x.tower.damping, .int .i64 x.tower.stiffness, .int .i64 x.tower.limit, .sl 6 (Beam.rows x.frame), .int .i64 x.stress, .int .i64 x.bending, .sl 4 (Action.rows x.clavier), .str x.tune.name, .sl 3 (Tone.rows x.tune.tones)]
def Carillon.sz (x:Carillon):Nat:=Ingot.szS x.ingots+Melt.szS x.melts+Bell.szS x.bells+Hung.szS x.hung+Place.szS x.places+Tower.sz x.tower+Beam.szS x.frame+Action.szS x.clavier+Tune.sz x.tune
structure Carillon.wf (x:Carillon):Prop where
 ingots:(x.ingots.length≤9223372036854775807∧∀y∈x.ingots,y.wf)
 melts:(x.melts.length≤9223372036854775807∧∀y∈x.melts,y.wf)
 bells:(x.bells.length≤9223372036854775807∧∀y∈x.bells,y.wf)
 hung:(x.hung.length≤9223372036854775807∧∀y∈x.hung,y.wf)
 chamber:Chamber.wf x.chamber
 places:(x.places.length≤9223372036854775807∧∀y∈x.places,y.wf)
 gap:I64 x.gap
 tower:Tower.wf x.tower
 frame:(x.frame.length≤9223372036854775807∧∀y∈x.frame,y.wf)
 stress:I64 x.stress
 bending:I64 x.bending
 clavier:(x.clavier.length≤9223372036854775807∧∀y∈x.clavier,y.wf)
 tune:Tune.wf x.tune
theorem qo6 (x:Carillon) (left:Nat) (hl:left≤1048576) (hx:x.wf):HFn Tryz.prog 13 [.agg x.cells, .int .i64 left] [] (.int .i64 (szR x.sz left)) []:=by
 refine qaa hm Tryz.func13 (by kernel_rfl) rfl (by kernel_rfl) rfl qab ?_
 simp[Carillon.cells]
 have k0:=qnT x.ingots (left) (by omega) hx.ingots.1 hx.ingots.2
 refine CallZ.use0 k0 rfl rfl ?_
 simp
 refine⟨fun h =>?_,fun h =>?_⟩
 ·have:=qaO h
  rw[qam (by unfold Carillon.sz; omega)]
 have h0:=qaI h
 rw[qal h0]
 rw[show (left:Int)-((Ingot.szS x.ingots:Nat):Int)=((left-Ingot.szS x.ingots:Nat):Int) by omega]
 have k1:=qoG x.melts (left-Ingot.szS x.ingots) (by omega) hx.melts.1 hx.melts.2
 refine CallZ.use0 k1 rfl rfl ?_
 simp
 refine⟨fun h =>?_,fun h =>?_⟩
 ·have:=qaO h
  rw[qam (by unfold Carillon.sz; omega)]
 have h1:=qaI h
 rw[qal h1]
 rw[show ((left-Ingot.szS x.ingots:Nat):Int)-((Melt.szS x.melts:Nat):Int)=((left-Ingot.szS x.ingots-Melt.szS x.melts:Nat):Int) by omega]
 have k2:=qoM x.bells (left-Ingot.szS x.ingots-Melt.szS x.melts) (by omega) hx.bells.1 hx.bells.2
 refine CallZ.use0 k2 rfl rfl ?_
 simp
 refine⟨fun h =>?_,fun h =>?_⟩
 ·have:=qaO h
  rw[qam (by unfold Carillon.sz; omega)]
 have h2:=qaI h
 rw[qal h2]
 rw[show ((left-Ingot.szS x.ingots-Melt.szS x.melts:Nat):Int)-((Bell.szS x.bells:Nat):Int)=((left-Ingot.szS x.ingots-Melt.szS x.melts-Bell.szS x.bells:Nat):Int) by omega]
 have k3:=qn0 x.hung (left-Ingot.szS x.ingots-Melt.szS x.melts-Bell.szS x.bells) (by omega) hx.hung.1 hx.hung.2
 refine CallZ.use0 k3 rfl rfl ?_
 simp
 refine⟨fun h =>?_,fun h =>?_⟩
 ·have:=qaO h
  rw[qam (by unfold Carillon.sz; omega)]
 have h3:=qaI h
 rw[qal h3]
 rw[show ((left-Ingot.szS x.ingots-Melt.szS x.melts-Bell.szS x.bells:Nat):Int)-((Hung.szS x.hung:Nat):Int)=((left-Ingot.szS x.ingots-Melt.szS x.melts-Bell.szS x.bells-Hung.szS x.hung:Nat):Int) by omega]
 have k4:=qn8 x.places (left-Ingot.szS x.ingots-Melt.szS x.melts-Bell.szS x.bells-Hung.szS x.hung) (by omega) hx.places.1 hx.places.2
 refine CallZ.use0 k4 rfl rfl ?_
 simp
 refine⟨fun h =>?_,fun h =>?_⟩
 ·have:=qaO h
  rw[qam (by unfold Carillon.sz; omega)]
 have h4:=qaI h
 rw[qal h4]
 rw[show ((left-Ingot.szS x.ingots-Melt.szS x.melts-Bell.szS x.bells-Hung.szS x.hung:Nat):Int)-((Place.szS x.places:Nat):Int)=((left-Ingot.szS x.ingots-Melt.szS x.melts-Bell.szS x.bells-Hung.szS x.hung-Place.szS x.places:Nat):Int) by omega]
 have k5:=qoe x.tower (left-Ingot.szS x.ingots-Melt.szS x.melts-Bell.szS x.bells-Hung.szS x.hung-Place.szS x.places) (by omega) hx.tower
 simp only[Tower.cells]at k5
 refine CallZ.use0 k5 rfl rfl ?_
 simp
 refine⟨fun h =>?_,fun h =>?_⟩
 ·have:=qaO h
  rw[qam (by unfold Carillon.sz; omega)]
 have h5:=qaI h
 rw[qal h5]
 rw[show ((left-Ingot.szS x.ingots-Melt.szS x.melts-Bell.szS x.bells-Hung.szS x.hung-Place.szS x.places:Nat):Int)-((Tower.sz x.tower:Nat):Int)=((left-Ingot.szS x.ingots-Melt.szS x.melts-Bell.szS x.bells-Hung.szS x.hung-Place.szS x.places-Tower.sz x.tower:Nat):Int) by omega]
 have k6:=qoS x.frame (left-Ingot.szS x.ingots-Melt.szS x.melts-Bell.szS x.bells-Hung.szS x.hung-Place.szS x.places-Tower.sz x.tower) (by omega) hx.frame.1 hx.frame.2
 refine CallZ.use0 k6 rfl rfl ?_
 simp
 refine⟨fun h =>?_,fun h =>?_⟩
 ·have:=qaO h
  rw[qam (by unfold Carillon.sz; omega)]
 have h6:=qaI h
 rw[qal h6]
 rw[show ((left-Ingot.szS x.ingots-Melt.szS x.melts-Bell.szS x.bells-Hung.szS x.hung-Place.szS x.places-Tower.sz x.tower:Nat):Int)-((Beam.szS x.frame:Nat):Int)=((left-Ingot.szS x.ingots-Melt.szS x.melts-Bell.szS x.bells-Hung.szS x.hung-Place.szS x.places-Tower.sz x.tower-Beam.szS x.frame:Nat):Int) by omega]
 have k7:=qoY x.clavier (left-Ingot.szS x.ingots-Melt.szS x.melts-Bell.szS x.bells-Hung.szS x.hung-Place.szS x.places-Tower.sz x.tower-Beam.szS x.frame) (by omega) hx.clavier.1 hx.clavier.2
 refine CallZ.use0 k7 rfl rfl ?_
 simp
 refine⟨fun h =>?_,fun h =>?_⟩
 ·have:=qaO h
  rw[qam (by unfold Carillon.sz; omega)]
 have h7:=qaI h
 rw[qal h7]
 rw[show ((left-Ingot.szS x.ingots-Melt.szS x.melts-Bell.szS x.bells-Hung.szS x.hung-Place.szS x.places-Tower.sz x.tower-Beam.szS x.frame:Nat):Int)-((Action.szS x.clavier:Nat):Int)=((left-Ingot.szS x.ingots-Melt.szS x.melts-Bell.szS x.bells-Hung.szS x.hung-Place.szS x.places-Tower.sz x.tower-Beam.szS x.frame-Action.szS x.clavier:Nat):Int) by omega]
 have k8:=qo3 x.tune (left-Ingot.szS x.ingots-Melt.szS x.melts-Bell.szS x.bells-Hung.szS x.hung-Place.szS x.places-Tower.sz x.tower-Beam.szS x.frame-Action.szS x.clavier) (by omega) hx.tune
 simp only[Tune.cells]at k8
 refine CallZ.use0 k8 rfl rfl ?_
 simp
 refine⟨fun h =>?_,fun h =>?_⟩
 ·have:=qaO h
  rw[qam (by unfold Carillon.sz; omega)]
 have h8:=qaI h
 rw[qal h8]
 rw[qal (by unfold Carillon.sz; omega)]
 unfold Carillon.sz
 omega
theorem qo7 (x:Carillon) (h:x.sz≤1048576):HFn Tryz.prog 20 [.agg x.cells] [] (.agg x.cells) []:=by
 unfold Carillon.sz at h
 refine qaa hm Tryz.func20 (by kernel_rfl) rfl (by kernel_rfl) rfl qab ?_
 simp[Carillon.cells]
 have k0:=qnV x.ingots (by unfold Ingot.szS at h; omega)
 refine CallZ.use0 k0 rfl rfl ?_
 simp
 have k1:=qoI x.melts (by omega)
 refine CallZ.use0 k1 rfl rfl ?_
 simp
 have k2:=qoO x.bells (by omega)
 refine CallZ.use0 k2 rfl rfl ?_
 simp
 have k3:=qn2 x.hung (by unfold Hung.szS at h; omega)
 refine CallZ.use0 k3 rfl rfl ?_
 simp
 have k4:=qjL x.chamber
 simp only[Chamber.cells]at k4
 refine CallZ.use0 k4 rfl rfl ?_
 simp
 have k5:=qoa x.places (by unfold Place.szS at h; omega)
 refine CallZ.use0 k5 rfl rfl ?_
 simp
 have k7:=qjN x.tower
 simp only[Tower.cells]at k7
 refine CallZ.use0 k7 rfl rfl ?_
 simp
 have k8:=qoU x.frame (by omega)
 refine CallZ.use0 k8 rfl rfl ?_
 simp
 have k11:=qo0 x.clavier (by omega)
 refine CallZ.use0 k11 rfl rfl ?_
 simp
 have k12:=qo4 x.tune (by omega)
 simp only[Tune.cells]at k12
 refine CallZ.use0 k12 rfl rfl ?_
 simp
theorem qo8 (a:Carillon) (h:a.wf):HFn Tryz.prog 36 [.agg a.cells, .agg a.cells] [] (.bool true) []:=by
 refine qaa hm Tryz.func36 (by kernel_rfl) rfl (by kernel_rfl) rfl qab ?_
 simp[Carillon.cells]
 have k0:=qnX a.ingots a.ingots h.ingots.1
 refine CallZ.use0 k0 rfl rfl ?_
 simp
 have k1:=qoK a.melts h.melts.1 h.melts.2
 refine CallZ.use0 k1 rfl rfl ?_
 simp
 have k2:=qoQ a.bells h.bells.1 h.bells.2
 refine CallZ.use0 k2 rfl rfl ?_
 simp
 have k3:=qn4 a.hung a.hung h.hung.1
 refine CallZ.use0 k3 rfl rfl ?_
 simp
 have k4:=qn6 a.chamber a.chamber
 simp only[Chamber.cells]at k4
 refine CallZ.use0 k4 rfl rfl ?_
 simp
 have k5:=qoc a.places a.places h.places.1
 refine CallZ.use0 k5 rfl rfl ?_
 simp
 have k7:=qof a.tower a.tower
 simp only[Tower.cells]at k7
 refine CallZ.use0 k7 rfl rfl ?_
 simp
 have k8:=qoW a.frame h.frame.1 h.frame.2
 refine CallZ.use0 k8 rfl rfl ?_
 simp
 have k11:=qo2 a.clavier h.clavier.1 h.clavier.2
 refine CallZ.use0 k11 rfl rfl ?_
 simp
 have k12:=qo5 a.tune h.tune
 simp only[Tune.cells]at k12
 refine CallZ.use0 k12 rfl rfl ?_
 simp
end Go.Proofs.YteckngloamnfdaaGreatDoor
